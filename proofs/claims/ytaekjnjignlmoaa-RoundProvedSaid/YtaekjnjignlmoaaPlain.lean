/-
  The plain functions of the chapter of the round: what the program and the reference compute, on integers and lists. No program in sight.
  Plain, second part: lateness, all rounds, and what is said of them.
  Plain, third part: what the functions of the chapter answer; right bounds.
  Plain, fourth part: right bounds, and the earliest steps.
  Plain, fifth part: the earliest steps are those of walks; the value of right bounds.
  Plain: what 'CheckRound', 'CheckClash' and 'Clash' answer.
-/
import Derived.Below
namespace Go.Proofs.Ytaekjnjignlmoaa

def nth (xs : List Int) (k : Nat) : Int := xs[k]?.getD 0
theorem nth_some {xs : List Int} {k : Nat} {x : Int} (h : xs[k]? = some x) : nth xs k = x := by rw [nth, h]; rfl
theorem some_nth {xs : List Int} {k : Nat} (h : k < xs.length) : xs[k]? = some (nth xs k) := by rw [nth, List.getElem?_eq_getElem h]; rfl
theorem nth_mem {xs : List Int} {k : Nat} (h : k < xs.length) : nth xs k ∈ xs := List.mem_of_getElem? (some_nth h)
theorem nth_out {xs : List Int} {k : Nat} (h : xs.length ≤ k) : nth xs k = 0 := by unfold nth; rw [List.getElem?_eq_none h]; rfl
theorem nth_setL {xs : List Int} {j k : Nat} {x : Int} (hj : j < xs.length) : nth (xs.set j x) k = if j = k then x else nth xs k := by
  unfold nth
  rw [List.getElem?_set]
  by_cases h : j = k
  · subst h; simp [hj]
  · simp [h]
theorem take_snoc {α : Type} {l : List α} {k : Nat} {x : α} (h : l[k]? = some x) : l.take (k + 1) = l.take k ++ [x] := by rw [List.take_add_one, h]; rfl
theorem eq_of_nth {L M : List Int} {n : Nat} (hl : L.length = n) (hm : M.length = n) (h : ∀ j : Nat, j < n → nth L j = nth M j) : L = M := List.ext_getElem (by omega) fun j h1 h2 => by
  have := h j (by omega)
  simpa [nth, h1, h2] using this
def outB (lo hi x : Int) : Bool := decide (x < lo) || decide (hi < x)
theorem any_out {lo hi : Int} {xs : List Int} : xs.any (outB lo hi) = false ↔ ∀ x ∈ xs, lo ≤ x ∧ x ≤ hi := by
  simp only [List.any_eq_false, outB, Bool.or_eq_true, decide_eq_true_eq, not_or, Int.not_lt]
theorem outB_false {lo hi x : Int} : outB lo hi x = false ↔ lo ≤ x ∧ x ≤ hi := by simp [outB]

/-! ### Piers: stops are pairs of a place and a To -/
def plc (ps : List (Int × Int)) (i : Nat) : Int := (ps[i]?.getD (0, 0)).1
def too (ps : List (Int × Int)) (i : Nat) : Int := (ps[i]?.getD (0, 0)).2
theorem plc_some {ps : List (Int × Int)} {k : Nat} {x : Int × Int} (h : ps[k]? = some x) : plc ps k = x.1 ∧ too ps k = x.2 := by rw [plc, too, h]; exact ⟨rfl, rfl⟩
def strayB (x : Int × Int) : Bool := outB 0 1000 x.1 || outB 0 9000 x.2
/-- The stop i breaks the rule. -/
def unruly (b : Int) (ps : List (Int × Int)) (i : Nat) : Bool := decide (plc ps i = b) || (decide (0 < i) && decide (plc ps i ≤ plc ps (i - 1)))
def checkPier (b : Int) (ps : List (Int × Int)) : Int :=
  if ps.length < 1 ∨ 10 < ps.length then 6 else if outB 0 1000 b || ps.any strayB then 3 else if (List.range ps.length).any (unruly b ps) then 16 else 0
structure Pier (b : Int) (ps : List (Int × Int)) : Prop where
  lo : 1 ≤ ps.length
  hi : ps.length ≤ 10
  begin_ : 0 ≤ b ∧ b ≤ 1000
  all : ∀ x ∈ ps, (0 ≤ x.1 ∧ x.1 ≤ 1000) ∧ 0 ≤ x.2 ∧ x.2 ≤ 9000
  off : ∀ i : Nat, i < ps.length → plc ps i ≠ b
  asc : ∀ i : Nat, i + 1 < ps.length → plc ps i < plc ps (i + 1)
theorem strayB_false {x : Int × Int} : strayB x = false ↔ (0 ≤ x.1 ∧ x.1 ≤ 1000) ∧ 0 ≤ x.2 ∧ x.2 ≤ 9000 := by
  unfold strayB
  rw [Bool.or_eq_false_iff, outB_false, outB_false]
theorem checkPier_ok {b : Int} {ps : List (Int × Int)} : checkPier b ps = 0 ↔ Pier b ps := by
  unfold checkPier
  constructor
  · intro h
    split at h
    · cases h
    · split at h
      · cases h
      · split at h
        · cases h
        · rename_i h1 h2 h3
          rw [Bool.not_eq_true, Bool.or_eq_false_iff] at h2
          rw [Bool.not_eq_true, List.any_eq_false] at h3
          refine ⟨by omega, by omega, outB_false.1 h2.1, fun x hx => strayB_false.1 (by have := List.any_eq_false.1 h2.2 x hx; simpa using this), fun i hi e => ?_, fun i hi => ?_⟩
          · have := h3 i (List.mem_range.2 hi)
            simp [unruly, e] at this
          · have := h3 (i + 1) (List.mem_range.2 hi)
            simp [unruly] at this
            omega
  · intro h
    have h3 : (List.range ps.length).any (unruly b ps) = false := by
      rw [List.any_eq_false]
      intro i hi
      have hil := List.mem_range.1 hi
      have h1 := h.off i hil
      unfold unruly
      match i, hil with
      | 0, _ => simp [h1]
      | i + 1, hil =>
        have := h.asc i hil
        simp [h1]
        omega
    have h2 : ps.any strayB = false := List.any_eq_false.2 fun x hx => by rw [strayB_false.2 (h.all x hx)]; simp
    rw [if_neg (by have := h.lo; have := h.hi; omega), h2, outB_false.2 h.begin_, h3]
    rfl
theorem Pier.at_ {b : Int} {ps : List (Int × Int)} (h : Pier b ps) (i : Nat) : 0 ≤ plc ps i ∧ plc ps i ≤ 1000 ∧ 0 ≤ too ps i ∧ too ps i ≤ 9000 := by
  rcases Nat.lt_or_ge i ps.length with hi | hi
  · have h1 := h.all ps[i] (List.getElem_mem hi)
    rw [plc, too, List.getElem?_eq_getElem hi]
    exact ⟨h1.1.1, h1.1.2, h1.2.1, h1.2.2⟩
  · rw [plc, too, List.getElem?_eq_none hi]
    simp
theorem Pier.lt {b : Int} {ps : List (Int × Int)} (h : Pier b ps) : ∀ {i j : Nat}, i < j → j < ps.length → plc ps i < plc ps j := by
  intro i j
  induction j with
  | zero => intro h; omega
  | succ j ih =>
    intro hij hj
    have h1 := h.asc j hj
    rcases Nat.lt_or_ge i j with h2 | h2
    · have := ih h2 (by omega)
      omega
    · obtain rfl : i = j := by omega
      exact h1
/-- How many stops are on the left. -/
def leftsTo (b : Int) (ps : List (Int × Int)) (k : Nat) : Nat := (ps.take k).countP fun x => decide (x.1 < b)
def lefts (b : Int) (ps : List (Int × Int)) : Nat := ps.countP fun x => decide (x.1 < b)
theorem leftsTo_succ {b : Int} {ps : List (Int × Int)} {k : Nat} {x : Int × Int} (h : ps[k]? = some x) : leftsTo b ps (k + 1) = leftsTo b ps k + if x.1 < b then 1 else 0 := by
  unfold leftsTo
  rw [take_snoc h, List.countP_append]
  simp [List.countP_cons]
theorem leftsTo_le (b : Int) (ps : List (Int × Int)) (k : Nat) : leftsTo b ps k ≤ k := by
  unfold leftsTo
  exact Nat.le_trans List.countP_le_length (by rw [List.length_take]; omega)
theorem leftsTo_all {b : Int} {ps : List (Int × Int)} {k : Nat} (h : ps.length ≤ k) : leftsTo b ps k = lefts b ps := by
  unfold leftsTo lefts
  rw [List.take_of_length_le h]
theorem lefts_le (b : Int) (ps : List (Int × Int)) : lefts b ps ≤ ps.length := List.countP_le_length
/-- A stop is on the left just if it is among the first. -/
theorem lefts_iff {b : Int} {ps : List (Int × Int)} (h : Pier b ps) {i : Nat} (hi : i < ps.length) : plc ps i < b ↔ i < lefts b ps := by
  have key : ∀ k : Nat, k ≤ ps.length → (∀ j : Nat, j < k → (plc ps j < b ↔ j < leftsTo b ps k)) ∧ (leftsTo b ps k < k → ∀ j : Nat, leftsTo b ps k ≤ j → j < ps.length → ¬ plc ps j < b) := by
    intro k
    induction k with
    | zero => intro _; exact ⟨fun j hj => by omega, fun h => by omega⟩
    | succ k ih =>
      intro hk
      obtain ⟨h1, h2⟩ := ih (by omega)
      have hk' : k < ps.length := by omega
      have hs := leftsTo_succ (b := b) (List.getElem?_eq_getElem hk')
      have hp : plc ps k = ps[k].1 := (plc_some (List.getElem?_eq_getElem hk')).1
      have hle := leftsTo_le b ps k
      rw [← hp] at hs
      by_cases hx : plc ps k < b
      · rw [if_pos hx] at hs
        have hall : leftsTo b ps k = k := by
          rcases Nat.lt_or_ge (leftsTo b ps k) k with h3 | h3
          · exact absurd hx (h2 h3 k (by omega) hk')
          · omega
        refine ⟨fun j hj => ?_, fun h => by omega⟩
        rcases Nat.lt_or_ge j k with h3 | h3
        · have := h1 j h3
          rw [this]
          omega
        · obtain rfl : j = k := by omega
          exact ⟨fun _ => by omega, fun _ => hx⟩
      · rw [if_neg hx] at hs
        refine ⟨fun j hj => ?_, fun _ j hj1 hj2 hjx => ?_⟩
        · rcases Nat.lt_or_ge j k with h3 | h3
          · rw [h1 j h3, hs]
            omega
          · obtain rfl : j = k := by omega
            exact ⟨fun h => absurd h hx, fun h => by omega⟩
        · rcases Nat.lt_or_ge j k with h3 | h3
          · have := (h1 j h3).1 hjx
            omega
          · rcases Nat.lt_or_ge k j with h4 | h4
            · have := h.lt h4 hj2
              omega
            · obtain rfl : j = k := by omega
              exact hx hjx
  have h1 := (key ps.length (Nat.le_refl _)).1 i hi
  rwa [leftsTo_all (Nat.le_refl _)] at h1

/-! ### Steps -/
def far (a b : Int) : Int := if a ≤ b then b - a else a - b
/-- A walk under way: where, how many steps, how many stops are left on the left, which is the next one on the right, the steps of the stops. -/
structure St where
  at_ : Int
  n : Int
  lo : Nat
  hi : Nat
  out : List Int
def st0 (b : Int) (ps : List (Int × Int)) : St := ⟨b, 0, lefts b ps, lefts b ps, List.replicate 10 0⟩
def move (ps : List (Int × Int)) (s : St) (i : Nat) (lo hi : Nat) : St := ⟨plc ps i, s.n + far s.at_ (plc ps i), lo, hi, s.out.set i (s.n + far s.at_ (plc ps i))⟩
def stF (ps : List (Int × Int)) (o : Option St) (i : Nat) : Option St :=
  o.bind fun s => if s.lo = i + 1 then some (move ps s i i s.hi) else if s.hi = i then some (move ps s i s.lo (i + 1)) else none
def stAt (b : Int) (ps : List (Int × Int)) (l : List Nat) : Option St := l.foldl (stF ps) (some (st0 b ps))
theorem stAt_snoc (b : Int) (ps : List (Int × Int)) (l : List Nat) (i : Nat) : stAt b ps (l ++ [i]) = stF ps (stAt b ps l) i := by unfold stAt; rw [List.foldl_append]; rfl
theorem stAt_none {b : Int} {ps : List (Int × Int)} {l m : List Nat} (h : stAt b ps l = none) : stAt b ps (l ++ m) = none := by
  unfold stAt at h ⊢
  rw [List.foldl_append, h]
  induction m with
  | nil => rfl
  | cons x m ih => exact ih
/-- What is known of a walk under way. -/
structure StOk (b : Int) (ps : List (Int × Int)) (l : List Nat) (s : St) : Prop where
  at_ : 0 ≤ s.at_ ∧ s.at_ ≤ 1000
  n : 0 ≤ s.n ∧ s.n ≤ 1000 * l.length
  lo : s.lo ≤ lefts b ps
  hi : lefts b ps ≤ s.hi ∧ s.hi ≤ ps.length
  many : l.length + s.lo = s.hi
  out : s.out.length = 10
  outs : ∀ i : Nat, 0 ≤ nth s.out i ∧ nth s.out i ≤ 1000 * l.length
theorem far_bd {a b : Int} (ha : 0 ≤ a ∧ a ≤ 1000) (hb : 0 ≤ b ∧ b ≤ 1000) : 0 ≤ far a b ∧ far a b ≤ 1000 := by unfold far; split <;> omega
theorem stOk_move {b : Int} {ps : List (Int × Int)} (hp : Pier b ps) {l : List Nat} {s : St} (h : StOk b ps l s) {i lo hi : Nat} (hlo : lo ≤ lefts b ps) (hhi : lefts b ps ≤ hi ∧ hi ≤ ps.length) (hm : l.length + 1 + lo = hi) (hi10 : i < ps.length) : StOk b ps (l ++ [i]) (move ps s i lo hi) := by
  have hpl := hp.at_ i
  have hf := far_bd h.at_ ⟨hpl.1, hpl.2.1⟩
  have hn := h.n
  have h10 := hp.hi
  refine ⟨⟨hpl.1, hpl.2.1⟩, ?_, hlo, hhi, by rw [List.length_append]; exact hm, by simp [move, h.out], fun j => ?_⟩
  · show 0 ≤ s.n + far s.at_ (plc ps i) ∧ s.n + far s.at_ (plc ps i) ≤ 1000 * ((l ++ [i]).length : Int)
    rw [List.length_append, List.length_singleton]
    omega
  · show 0 ≤ nth (s.out.set i (s.n + far s.at_ (plc ps i))) j ∧ nth (s.out.set i (s.n + far s.at_ (plc ps i))) j ≤ 1000 * ((l ++ [i]).length : Int)
    rw [nth_setL (by rw [h.out]; omega), List.length_append, List.length_singleton]
    have := h.outs j
    split <;> omega
theorem stOk_0 {b : Int} {ps : List (Int × Int)} (hp : Pier b ps) : StOk b ps [] (st0 b ps) := by
  refine ⟨hp.begin_, ⟨Int.le_refl _, by simp [st0]⟩, Nat.le_refl _, ⟨Nat.le_refl _, lefts_le b ps⟩, by simp [st0], by simp [st0], fun i => ?_⟩
  have e : nth (st0 b ps).out i = 0 := by
    unfold nth st0
    simp only [List.getElem?_replicate]
    split <;> rfl
  rw [e]
  simp
theorem stOk {b : Int} {ps : List (Int × Int)} (hp : Pier b ps) (l : List Nat) : ∀ s, (∀ i ∈ l, i < ps.length) → stAt b ps l = some s → StOk b ps l s := by
  have key : ∀ (m : Nat) (l : List Nat), l.length = m → ∀ s, (∀ i ∈ l, i < ps.length) → stAt b ps l = some s → StOk b ps l s := by
    intro m
    induction m with
    | zero =>
      intro l hl s _ h
      obtain rfl := List.eq_nil_of_length_eq_zero hl
      cases h
      exact stOk_0 hp
    | succ m ih =>
      intro l hl s hall h
      have hne : l ≠ [] := by intro e; rw [e] at hl; cases hl
      have hsp := List.dropLast_concat_getLast hne
      have hlast : l.getLast hne < ps.length := hall _ (List.getLast_mem hne)
      rw [← hsp, stAt_snoc] at h
      rw [← hsp]
      cases hs : stAt b ps l.dropLast with
      | none => rw [hs] at h; cases h
      | some t =>
        have ht := ih l.dropLast (by rw [List.length_dropLast, hl]; rfl) t (fun i hi => hall i (List.dropLast_subset l hi)) hs
        rw [hs] at h
        simp only [stF, Option.bind_some] at h
        have hm := ht.many
        split at h
        · cases h
          rename_i e
          exact stOk_move hp ht (by have := ht.lo; omega) ht.hi (by omega) hlast
        · split at h
          · cases h
            rename_i e
            exact stOk_move hp ht ht.lo ⟨by have := ht.hi.1; omega, by omega⟩ (by omega) hlast
          · cases h
  exact key l.length l rfl
end Go.Proofs.Ytaekjnjignlmoaa

namespace Go.Proofs.Ytaekjnjignlmoaa

/-! ### Steps of a list, and by how much it is late -/
def zeros : List Int := List.replicate 10 0
def stepsL (b : Int) (ps : List (Int × Int)) (l : List Nat) : List Int := ((stAt b ps l).map St.out).getD zeros
theorem stepsL_some {b : Int} {ps : List (Int × Int)} {l : List Nat} {s : St} (h : stAt b ps l = some s) : stepsL b ps l = s.out := by rw [stepsL, h]; rfl
theorem stepsL_none {b : Int} {ps : List (Int × Int)} {l : List Nat} (h : stAt b ps l = none) : stepsL b ps l = zeros := by rw [stepsL, h]; rfl
def maxI (a b : Int) : Int := if a < b then b else a
theorem maxI_le {a b c : Int} : maxI a b ≤ c ↔ a ≤ c ∧ b ≤ c := by unfold maxI; split <;> omega
/-- By how much the first k stops, and the first one, are late at most. -/
def lateTo (ps : List (Int × Int)) (own : List Int) (k : Nat) : Int := (List.range k).foldl (fun m i => maxI m (nth own i - too ps i)) (nth own 0 - too ps 0)
def lateL (ps : List (Int × Int)) (own : List Int) : Int := lateTo ps own ps.length
theorem lateTo_succ (ps : List (Int × Int)) (own : List Int) (k : Nat) : lateTo ps own (k + 1) = maxI (lateTo ps own k) (nth own k - too ps k) := by unfold lateTo; rw [List.range_succ, List.foldl_append]; rfl
theorem lateTo_le {ps : List (Int × Int)} {own : List Int} {c : Int} : ∀ k : Nat, lateTo ps own k ≤ c ↔ nth own 0 - too ps 0 ≤ c ∧ ∀ i : Nat, i < k → nth own i - too ps i ≤ c
  | 0 => ⟨fun h => ⟨h, fun i hi => absurd hi (Nat.not_lt_zero i)⟩, fun h => h.1⟩
  | k + 1 => by
    rw [lateTo_succ, maxI_le, lateTo_le k]
    constructor
    · rintro ⟨⟨h1, h2⟩, h3⟩
      refine ⟨h1, fun i hi => ?_⟩
      rcases Nat.eq_or_lt_of_le (Nat.le_of_lt_succ hi) with h | h
      · subst h; exact h3
      · exact h2 i h
    · rintro ⟨h1, h2⟩
      exact ⟨⟨h1, fun i hi => h2 i (by omega)⟩, h2 k (by omega)⟩
theorem lateL_le {ps : List (Int × Int)} {own : List Int} {c : Int} (h1 : 1 ≤ ps.length) : lateL ps own ≤ c ↔ ∀ i : Nat, i < ps.length → nth own i - too ps i ≤ c := by
  unfold lateL
  rw [lateTo_le]
  exact ⟨fun h => h.2, fun h => ⟨h 0 h1, h⟩⟩
theorem lateTo_mem (ps : List (Int × Int)) (own : List Int) : ∀ k : Nat, ∃ i : Nat, (i = 0 ∨ i < k) ∧ lateTo ps own k = nth own i - too ps i
  | 0 => ⟨0, .inl rfl, rfl⟩
  | k + 1 => by
    obtain ⟨i, hi, h⟩ := lateTo_mem ps own k
    rw [lateTo_succ]
    unfold maxI
    split
    · exact ⟨k, .inr (by omega), rfl⟩
    · exact ⟨i, by omega, h⟩
theorem lateTo_bd {b : Int} {ps : List (Int × Int)} (hp : Pier b ps) {own : List Int} (h : ∀ i : Nat, 0 ≤ nth own i ∧ nth own i ≤ 10000) (k : Nat) : -9000 ≤ lateTo ps own k ∧ lateTo ps own k ≤ 10000 := by
  obtain ⟨i, _, e⟩ := lateTo_mem ps own k
  have h1 := hp.at_ i
  have h2 := h i
  omega
/-- The round is in time, as the program says. -/
def inTimeB (b : Int) (ps : List (Int × Int)) (l : List Nat) : Bool := decide (stepsL b ps l ≠ zeros) && decide (lateL ps (stepsL b ps l) ≤ 0)

/-! ### All rounds -/
/-- All ways to go on for f stops, when lo are left on the left, and hi is the next one on the right. -/
def genR (n : Nat) : Nat → Nat → Nat → List (List Nat)
  | 0, _, _ => [[]]
  | f + 1, lo, hi => (if 0 < lo then (genR n f (lo - 1) hi).map ((lo - 1) :: ·) else []) ++ (if hi < n then (genR n f lo (hi + 1)).map (hi :: ·) else [])
def allR (b : Int) (ps : List (Int × Int)) : List (List Nat) := genR ps.length ps.length (lefts b ps) (lefts b ps)
theorem genR_len {n : Nat} : ∀ (f lo hi : Nat), ∀ l ∈ genR n f lo hi, l.length = f
  | 0, lo, hi, l, h => by
    simp [genR] at h
    rw [h]
    rfl
  | f + 1, lo, hi, l, h => by
    rw [genR, List.mem_append] at h
    rcases h with h | h
    · split at h
      · obtain ⟨m, hm, rfl⟩ := List.mem_map.1 h
        rw [List.length_cons, genR_len f _ _ m hm]
      · cases h
    · split at h
      · obtain ⟨m, hm, rfl⟩ := List.mem_map.1 h
        rw [List.length_cons, genR_len f _ _ m hm]
      · cases h
theorem genR_in {n : Nat} : ∀ (f lo hi : Nat), lo ≤ n → ∀ l ∈ genR n f lo hi, ∀ i ∈ l, i < n
  | 0, lo, hi, _, l, h => by
    simp [genR] at h
    rw [h]
    simp
  | f + 1, lo, hi, hlo, l, h => by
    rw [genR, List.mem_append] at h
    rcases h with h | h
    · split at h
      · obtain ⟨m, hm, rfl⟩ := List.mem_map.1 h
        intro i hi'
        rcases List.mem_cons.1 hi' with rfl | hi'
        · omega
        · exact genR_in f _ _ (by omega) m hm i hi'
      · cases h
    · split at h
      · obtain ⟨m, hm, rfl⟩ := List.mem_map.1 h
        intro i hi'
        rcases List.mem_cons.1 hi' with rfl | hi'
        · assumption
        · exact genR_in f _ _ hlo m hm i hi'
      · cases h
theorem foldl_none (ps : List (Int × Int)) (l : List Nat) : l.foldl (stF ps) none = none := by
  induction l with
  | nil => rfl
  | cons x l ih => exact ih
/-- A list that goes on from a walk under way to its end is one of those that are generated, and the other way round. -/
theorem genR_iff {ps : List (Int × Int)} : ∀ (f : Nat) (s : St) (l : List Nat), s.lo ≤ s.hi → s.hi ≤ ps.length → f = s.lo + (ps.length - s.hi) →
    (l ∈ genR ps.length f s.lo s.hi ↔ l.length = f ∧ (l.foldl (stF ps) (some s)).isSome = true ∧ ∀ i ∈ l, i < ps.length)
  | 0, s, l, _, _, _ => by
    simp only [genR, List.mem_singleton]
    constructor
    · rintro rfl
      exact ⟨rfl, rfl, by simp⟩
    · rintro ⟨h, _⟩
      exact List.eq_nil_of_length_eq_zero h
  | f + 1, s, [], _, _, _ => by
    constructor
    · intro h
      have := genR_len _ _ _ _ h
      simp at this
    · rintro ⟨h, _⟩
      simp at h
  | f + 1, s, i :: l, h1, h2, hf => by
    rw [genR, List.mem_append]
    have hst : (i :: l).foldl (stF ps) (some s) = l.foldl (stF ps) (stF ps (some s) i) := rfl
    rw [hst]
    constructor
    · rintro (h | h)
      · split at h
        · rename_i h0
          obtain ⟨m, hm, e⟩ := List.mem_map.1 h
          obtain ⟨rfl, rfl⟩ : s.lo - 1 = i ∧ m = l := by simpa using e
          have e2 : stF ps (some s) (s.lo - 1) = some (move ps s (s.lo - 1) (s.lo - 1) s.hi) := by simp only [stF, Option.bind_some]; rw [if_pos (by omega)]
          have ih := (genR_iff f (move ps s (s.lo - 1) (s.lo - 1) s.hi) m (by show s.lo - 1 ≤ s.hi; omega) h2 (by show f = s.lo - 1 + (ps.length - s.hi); omega)).1 hm
          rw [e2]
          refine ⟨by rw [List.length_cons, ih.1], ih.2.1, fun j hj => ?_⟩
          rcases List.mem_cons.1 hj with rfl | hj
          · omega
          · exact ih.2.2 j hj
        · cases h
      · split at h
        · rename_i h0
          obtain ⟨m, hm, e⟩ := List.mem_map.1 h
          obtain ⟨rfl, rfl⟩ : s.hi = i ∧ m = l := by simpa using e
          have e2 : stF ps (some s) s.hi = some (move ps s s.hi s.lo (s.hi + 1)) := by simp only [stF, Option.bind_some]; rw [if_neg (by omega), if_pos trivial]
          have ih := (genR_iff f (move ps s s.hi s.lo (s.hi + 1)) m (by show s.lo ≤ s.hi + 1; omega) (by show s.hi + 1 ≤ ps.length; omega) (by show f = s.lo + (ps.length - (s.hi + 1)); omega)).1 hm
          rw [e2]
          refine ⟨by rw [List.length_cons, ih.1], ih.2.1, fun j hj => ?_⟩
          rcases List.mem_cons.1 hj with rfl | hj
          · omega
          · exact ih.2.2 j hj
        · cases h
    · rintro ⟨hl, hs, hall⟩
      have hi := hall i (by simp)
      simp only [stF, Option.bind_some] at hs
      by_cases c1 : s.lo = i + 1
      · rw [if_pos c1] at hs
        left
        rw [if_pos (by omega)]
        refine List.mem_map.2 ⟨l, (genR_iff f (move ps s i i s.hi) l (by show i ≤ s.hi; omega) h2 (by show f = i + (ps.length - s.hi); omega)).2 ⟨by simpa using hl, hs, fun j hj => hall j (by simp [hj])⟩ |> fun h => ?_, by rw [c1]; rfl⟩
        rw [c1]
        exact h
      · rw [if_neg c1] at hs
        by_cases c2 : s.hi = i
        · rw [if_pos c2] at hs
          right
          rw [if_pos (by omega)]
          refine List.mem_map.2 ⟨l, ?_, by rw [c2]⟩
          rw [c2]
          exact (genR_iff f (move ps s i s.lo (i + 1)) l (by show s.lo ≤ i + 1; omega) (by show i + 1 ≤ ps.length; omega) (by show f = s.lo + (ps.length - (i + 1)); omega)).2 ⟨by simpa using hl, hs, fun j hj => hall j (by simp [hj])⟩
        · rw [if_neg c2, foldl_none] at hs
          cases hs
theorem allR_iff {b : Int} {ps : List (Int × Int)} {l : List Nat} : l ∈ allR b ps ↔ l.length = ps.length ∧ (stAt b ps l).isSome = true ∧ ∀ i ∈ l, i < ps.length :=
  genR_iff ps.length (st0 b ps) l (Nat.le_refl _) (lefts_le b ps) (by show ps.length = lefts b ps + (ps.length - lefts b ps); have := lefts_le b ps; omega)
/-- How many there are. -/
def ways2 : Nat → Nat → Nat → Nat
  | 0, _, _ => 1
  | f + 1, lo, r => (if 0 < lo then ways2 f (lo - 1) r else 0) + (if 0 < r then ways2 f lo (r - 1) else 0)
theorem genR_count {n : Nat} : ∀ (f lo hi : Nat), hi ≤ n → (genR n f lo hi).length = ways2 f lo (n - hi)
  | 0, _, _, _ => rfl
  | f + 1, lo, hi, h => by
    rw [genR, ways2, List.length_append]
    congr 1
    · split
      · rw [List.length_map, genR_count f _ _ h]
      · rfl
    · by_cases h2 : hi < n
      · rw [if_pos h2, if_pos (by omega), List.length_map, genR_count f _ _ (by omega)]
        congr 1
      · rw [if_neg h2, if_neg (by omega)]
        rfl
def waysOk (n l : Nat) : Bool := decide (n < l) || decide (ways2 n l (n - l) ≤ 252)
theorem waysOk_all : (List.range 11).all (fun n => (List.range 11).all (waysOk n)) = true := by decide +kernel
theorem allR_many {b : Int} {ps : List (Int × Int)} (hp : Pier b ps) : (allR b ps).length ≤ 252 := by
  have hle := lefts_le b ps
  have h10 := hp.hi
  unfold allR
  rw [genR_count _ _ _ hle]
  have h := List.all_eq_true.1 (List.all_eq_true.1 waysOk_all ps.length (List.mem_range.2 (by omega))) (lefts b ps) (List.mem_range.2 (by omega))
  unfold waysOk at h
  rw [decide_eq_false (by omega), Bool.false_or, decide_eq_true_eq] at h
  exact h
theorem ways2_pos : ∀ (f lo r : Nat), f = lo + r → 0 < ways2 f lo r
  | 0, _, _, _ => by simp [ways2]
  | f + 1, lo, r, h => by
    rw [ways2]
    rcases Nat.eq_zero_or_pos lo with h0 | h0
    · have := ways2_pos f lo (r - 1) (by omega)
      rw [if_pos (by omega : 0 < r)]
      omega
    · have := ways2_pos f (lo - 1) r (by omega)
      rw [if_pos h0]
      omega
theorem allR_some {b : Int} {ps : List (Int × Int)} : 0 < (allR b ps).length := by
  have hle := lefts_le b ps
  unfold allR
  rw [genR_count _ _ _ hle]
  exact ways2_pos _ _ _ (by omega)

/-! ### Full rounds: every stop is levelled at a step that is greater than 0 -/
theorem far_pos {a c : Int} (h : a ≠ c) : 1 ≤ far a c := by unfold far; split <;> omega
/-- Stops that have been done lie from lo up to hi, their steps are positive. -/
structure Done (b : Int) (ps : List (Int × Int)) (s : St) : Prop where
  steps : ∀ i : Nat, s.lo ≤ i → i < s.hi → 1 ≤ nth s.out i ∧ nth s.out i ≤ s.n
  at_ : (s.at_ = b ∧ s.lo = s.hi) ∨ (s.lo < s.hi ∧ (s.at_ = plc ps s.lo ∨ s.at_ = plc ps (s.hi - 1)))
theorem done_0 (b : Int) (ps : List (Int × Int)) : Done b ps (st0 b ps) := ⟨fun i h1 h2 => by
  have h3 : lefts b ps ≤ i := h1
  have h4 : i < lefts b ps := h2
  omega, .inl ⟨rfl, rfl⟩⟩
theorem done_left {b : Int} {ps : List (Int × Int)} (hp : Pier b ps) {s : St} (ho : s.out.length = 10) (hn : 0 ≤ s.n) (hh : s.hi ≤ ps.length) (h : Done b ps s) {i : Nat} (hi : s.lo = i + 1) (hl : s.lo ≤ s.hi) : Done b ps (move ps s i i s.hi) := by
  have h10 := hp.hi
  have hf : 1 ≤ far s.at_ (plc ps i) := far_pos (by
    rcases h.at_ with ⟨e, _⟩ | ⟨h1, e | e⟩
    · rw [e]
      exact (hp.off i (by omega)).symm
    · rw [e]
      have := hp.lt (i := i) (j := s.lo) (by omega) (by omega)
      omega
    · rw [e]
      have := hp.lt (i := i) (j := s.hi - 1) (by omega) (by omega)
      omega)
  refine ⟨fun j h1 h2 => ?_, .inr ⟨by show i < s.hi; omega, .inl rfl⟩⟩
  show 1 ≤ nth (s.out.set i (s.n + far s.at_ (plc ps i))) j ∧ nth (s.out.set i (s.n + far s.at_ (plc ps i))) j ≤ s.n + far s.at_ (plc ps i)
  have h1' : i ≤ j := h1
  have h2' : j < s.hi := h2
  rw [nth_setL (by omega)]
  split
  · omega
  · have := h.steps j (by omega) h2'
    omega
theorem done_right {b : Int} {ps : List (Int × Int)} (hp : Pier b ps) {s : St} (ho : s.out.length = 10) (hn : 0 ≤ s.n) (h : Done b ps s) (hh : s.hi < ps.length) (hl : s.lo ≤ s.hi) : Done b ps (move ps s s.hi s.lo (s.hi + 1)) := by
  have h10 := hp.hi
  have hf : 1 ≤ far s.at_ (plc ps s.hi) := far_pos (by
    rcases h.at_ with ⟨e, _⟩ | ⟨h1, e | e⟩
    · rw [e]
      exact (hp.off s.hi hh).symm
    · rw [e]
      have := hp.lt (i := s.lo) (j := s.hi) (by omega) hh
      omega
    · rw [e]
      have := hp.lt (i := s.hi - 1) (j := s.hi) (by omega) hh
      omega)
  refine ⟨fun j h1 h2 => ?_, .inr ⟨by show s.lo < s.hi + 1; omega, .inr (by show plc ps s.hi = plc ps (s.hi + 1 - 1); rw [Nat.add_sub_cancel])⟩⟩
  show 1 ≤ nth (s.out.set s.hi (s.n + far s.at_ (plc ps s.hi))) j ∧ nth (s.out.set s.hi (s.n + far s.at_ (plc ps s.hi))) j ≤ s.n + far s.at_ (plc ps s.hi)
  have h1' : s.lo ≤ j := h1
  have h2' : j < s.hi + 1 := h2
  rw [nth_setL (by omega)]
  split
  · omega
  · have := h.steps j h1' (by omega)
    omega
theorem done_all {b : Int} {ps : List (Int × Int)} (hp : Pier b ps) : ∀ (m : Nat) (l : List Nat), l.length = m → ∀ s, (∀ i ∈ l, i < ps.length) → stAt b ps l = some s → Done b ps s := by
  intro m
  induction m with
  | zero =>
    intro l hl s _ h
    obtain rfl := List.eq_nil_of_length_eq_zero hl
    cases h
    exact done_0 b ps
  | succ m ih =>
    intro l hl s hall h
    have hne : l ≠ [] := by intro e; rw [e] at hl; cases hl
    have hsp := List.dropLast_concat_getLast hne
    have hlast : l.getLast hne < ps.length := hall _ (List.getLast_mem hne)
    have hall2 : ∀ i ∈ l.dropLast, i < ps.length := fun i hi => hall i (List.dropLast_subset l hi)
    rw [← hsp, stAt_snoc] at h
    cases hs : stAt b ps l.dropLast with
    | none => rw [hs] at h; cases h
    | some t =>
      have ht := ih l.dropLast (by rw [List.length_dropLast, hl]; rfl) t hall2 hs
      have hk := stOk hp l.dropLast t hall2 hs
      have hm := hk.many
      rw [hs] at h
      simp only [stF, Option.bind_some] at h
      split at h
      · cases h
        rename_i e
        exact done_left hp hk.out hk.n.1 hk.hi.2 ht e (by omega)
      · split at h
        · cases h
          rename_i e
          have := done_right hp hk.out hk.n.1 ht (by rw [e]; exact hlast) (by omega)
          rwa [e] at this
        · cases h
/-- A full round: its state at the end. -/
theorem full_round {b : Int} {ps : List (Int × Int)} (hp : Pier b ps) {l : List Nat} (h : l ∈ allR b ps) : ∃ s, stAt b ps l = some s ∧ StOk b ps l s ∧ s.lo = 0 ∧ s.hi = ps.length ∧ (∀ i : Nat, i < ps.length → 1 ≤ nth s.out i ∧ nth s.out i ≤ s.n) := by
  obtain ⟨h1, h2, h3⟩ := allR_iff.1 h
  obtain ⟨s, hs⟩ := Option.isSome_iff_exists.1 h2
  have hk := stOk hp l s h3 hs
  have hd := done_all hp _ l rfl s h3 hs
  have hm := hk.many
  have hlo : s.lo = 0 := by have := hk.hi.2; omega
  have hhi : s.hi = ps.length := by omega
  exact ⟨s, hs, hk, hlo, hhi, fun i hi => hd.steps i (by omega) (by omega)⟩
theorem full_steps {b : Int} {ps : List (Int × Int)} (hp : Pier b ps) {l : List Nat} (h : l ∈ allR b ps) : stepsL b ps l ≠ zeros := by
  obtain ⟨s, hs, _, _, _, hd⟩ := full_round hp h
  rw [stepsL_some hs]
  intro e
  have h1 := (hd 0 (by have := hp.lo; omega)).1
  rw [e] at h1
  simp [nth, zeros] at h1
theorem inTime_iff {b : Int} {ps : List (Int × Int)} (hp : Pier b ps) {l : List Nat} (h : l ∈ allR b ps) : inTimeB b ps l = true ↔ ∀ i : Nat, i < ps.length → nth (stepsL b ps l) i ≤ too ps i := by
  unfold inTimeB
  rw [decide_eq_true (full_steps hp h), Bool.true_and, decide_eq_true_eq, lateL_le hp.lo]
  exact ⟨fun h i hi => by have := h i hi; omega, fun h i hi => by have := h i hi; omega⟩
end Go.Proofs.Ytaekjnjignlmoaa

namespace Go.Proofs.Ytaekjnjignlmoaa

/-! ### Shortest, Round, Count, Within, Delay -/
def goodR (b : Int) (ps : List (Int × Int)) : List (List Nat) := (allR b ps).filter (inTimeB b ps)
def lastOf (l : List Nat) : Nat := l.getLast?.getD 0
def lenR (b : Int) (ps : List (Int × Int)) (l : List Nat) : Int := nth (stepsL b ps l) (lastOf l)
/-- The first of several of which f is least. -/
def firstBest (f : List Nat → Int) : List (List Nat) → List Nat
  | [] => []
  | x :: xs => xs.foldl (fun m y => if f y < f m then y else m) x
def roundOf (b : Int) (ps : List (Int × Int)) : List Nat := firstBest (lenR b ps) (goodR b ps)
theorem foldBest (f : List Nat → Int) : ∀ (xs : List (List Nat)) (x : List Nat), (xs.foldl (fun m y => if f y < f m then y else m) x = x ∨ xs.foldl (fun m y => if f y < f m then y else m) x ∈ xs) ∧ f (xs.foldl (fun m y => if f y < f m then y else m) x) ≤ f x ∧ ∀ y ∈ xs, f (xs.foldl (fun m y => if f y < f m then y else m) x) ≤ f y
  | [], x => ⟨.inl rfl, Int.le_refl _, fun y hy => absurd hy (by simp)⟩
  | z :: xs, x => by
    obtain ⟨h1, h2, h3⟩ := foldBest f xs (if f z < f x then z else x)
    simp only [List.foldl_cons]
    refine ⟨?_, ?_, fun y hy => ?_⟩
    · rcases h1 with h1 | h1
      · rw [h1]
        split
        · exact .inr (by simp)
        · exact .inl rfl
      · exact .inr (by simp [h1])
    · refine Int.le_trans h2 ?_
      split <;> omega
    · rcases List.mem_cons.1 hy with rfl | hy
      · refine Int.le_trans h2 ?_
        split <;> omega
      · exact h3 y hy
theorem firstBest_mem {f : List Nat → Int} {xs : List (List Nat)} (h : xs ≠ []) : firstBest f xs ∈ xs ∧ ∀ y ∈ xs, f (firstBest f xs) ≤ f y := by
  match xs, h with
  | x :: xs, _ =>
    obtain ⟨h1, h2, h3⟩ := foldBest f xs x
    refine ⟨?_, fun y hy => ?_⟩
    · rcases h1 with h1 | h1
      · show List.foldl _ x xs ∈ x :: xs
        rw [h1]
        simp
      · exact List.mem_cons_of_mem _ h1
    · rcases List.mem_cons.1 hy with rfl | hy
      · exact h2
      · exact h3 y hy
theorem mem_goodR {b : Int} {ps : List (Int × Int)} {l : List Nat} : l ∈ goodR b ps ↔ l ∈ allR b ps ∧ inTimeB b ps l = true := by
  unfold goodR
  rw [List.mem_filter]
theorem firstBest_snoc (f : List Nat → Int) {xs : List (List Nat)} (h : xs ≠ []) (y : List Nat) : firstBest f (xs ++ [y]) = if f y < f (firstBest f xs) then y else firstBest f xs := by
  match xs, h with
  | x :: xs, _ =>
    show List.foldl _ x (xs ++ [y]) = _
    rw [List.foldl_append]
    rfl
def minL (x : Int) (xs : List Int) : Int := xs.foldl (fun m y => if y < m then y else m) x
def maxL (x : Int) (xs : List Int) : Int := xs.foldl maxI x
/-- The least of a list of numbers. -/
def minOf : List Int → Int
  | [] => 0
  | x :: xs => minL x xs
def maxOf : List Int → Int
  | [] => 0
  | x :: xs => maxL x xs
theorem minL_le : ∀ (xs : List Int) (x : Int), minL x xs ≤ x ∧ (∀ y ∈ xs, minL x xs ≤ y) ∧ (minL x xs = x ∨ minL x xs ∈ xs)
  | [], x => ⟨Int.le_refl _, fun y hy => absurd hy (by simp), .inl rfl⟩
  | z :: xs, x => by
    obtain ⟨h1, h2, h3⟩ := minL_le xs (if z < x then z else x)
    have e : minL x (z :: xs) = minL (if z < x then z else x) xs := rfl
    rw [e]
    refine ⟨?_, fun y hy => ?_, ?_⟩
    · refine Int.le_trans h1 ?_
      split <;> omega
    · rcases List.mem_cons.1 hy with rfl | hy
      · refine Int.le_trans h1 ?_
        split <;> omega
      · exact h2 y hy
    · rcases h3 with h3 | h3
      · rw [h3]
        split
        · exact .inr (by simp)
        · exact .inl rfl
      · exact .inr (by simp [h3])
theorem maxL_ge : ∀ (xs : List Int) (x : Int), x ≤ maxL x xs ∧ (∀ y ∈ xs, y ≤ maxL x xs) ∧ (maxL x xs = x ∨ maxL x xs ∈ xs)
  | [], x => ⟨Int.le_refl _, fun y hy => absurd hy (by simp), .inl rfl⟩
  | z :: xs, x => by
    obtain ⟨h1, h2, h3⟩ := maxL_ge xs (maxI x z)
    have e : maxL x (z :: xs) = maxL (maxI x z) xs := rfl
    have e2 : x ≤ maxI x z ∧ z ≤ maxI x z ∧ (maxI x z = x ∨ maxI x z = z) := by unfold maxI; split <;> omega
    rw [e]
    refine ⟨by omega, fun y hy => ?_, ?_⟩
    · rcases List.mem_cons.1 hy with rfl | hy
      · omega
      · exact h2 y hy
    · rcases h3 with h3 | h3
      · rcases e2.2.2 with e3 | e3
        · exact .inl (h3.trans e3)
        · exact .inr (by rw [h3, e3]; simp)
      · exact .inr (by simp [h3])
theorem minOf_snoc {xs : List Int} (h : xs ≠ []) (y : Int) : minOf (xs ++ [y]) = if y < minOf xs then y else minOf xs := by
  match xs, h with
  | x :: xs, _ =>
    show minL x (xs ++ [y]) = _
    unfold minL
    rw [List.foldl_append]
    rfl
theorem maxOf_snoc {xs : List Int} (h : xs ≠ []) (y : Int) : maxOf (xs ++ [y]) = maxI (maxOf xs) y := by
  match xs, h with
  | x :: xs, _ =>
    show maxL x (xs ++ [y]) = _
    unfold maxL
    rw [List.foldl_append]
    rfl
theorem minOf_le {xs : List Int} : ∀ y ∈ xs, minOf xs ≤ y := fun y hy => by
  match xs, hy with
  | x :: xs, hy =>
    obtain ⟨h1, h2, _⟩ := minL_le xs x
    rcases List.mem_cons.1 hy with rfl | hy
    · exact h1
    · exact h2 y hy
theorem minOf_mem {xs : List Int} (h : xs ≠ []) : minOf xs ∈ xs := by
  match xs, h with
  | x :: xs, _ =>
    obtain ⟨_, _, h3⟩ := minL_le xs x
    rcases h3 with h3 | h3
    · show minL x xs ∈ _
      rw [h3]
      simp
    · exact List.mem_cons_of_mem _ h3
theorem maxOf_ge {xs : List Int} : ∀ y ∈ xs, y ≤ maxOf xs := fun y hy => by
  match xs, hy with
  | x :: xs, hy =>
    obtain ⟨h1, h2, _⟩ := maxL_ge xs x
    rcases List.mem_cons.1 hy with rfl | hy
    · exact h1
    · exact h2 y hy
theorem maxOf_mem {xs : List Int} (h : xs ≠ []) : maxOf xs ∈ xs := by
  match xs, h with
  | x :: xs, _ =>
    obtain ⟨_, _, h3⟩ := maxL_ge xs x
    rcases h3 with h3 | h3
    · show maxL x xs ∈ _
      rw [h3]
      simp
    · exact List.mem_cons_of_mem _ h3
def shortestS (b : Int) (ps : List (Int × Int)) : List Nat × Int × Int := if checkPier b ps = 0 then (if goodR b ps = [] then ([], 0, 12) else (roundOf b ps, lenR b ps (roundOf b ps), 0)) else ([], 0, checkPier b ps)
def countS (b : Int) (ps : List (Int × Int)) : Int × Int := if checkPier b ps = 0 then ((goodR b ps).length, 0) else (0, checkPier b ps)
def stepsAt (b : Int) (ps : List (Int × Int)) (i : Nat) : List Int := (goodR b ps).map fun l => nth (stepsL b ps l) i
def withinS (b : Int) (ps : List (Int × Int)) (i : Int) : Int × Int × Int :=
  if checkPier b ps = 0 then (if i < 0 ∨ (ps.length : Int) ≤ i then (0, 0, 2) else if goodR b ps = [] then (0, 0, 12) else (minOf (stepsAt b ps i.toNat), maxOf (stepsAt b ps i.toNat), 0)) else (0, 0, checkPier b ps)
def delayS (b : Int) (ps : List (Int × Int)) : Int × Int := if checkPier b ps = 0 then (minOf ((allR b ps).map fun l => lateL ps (stepsL b ps l)), 0) else (0, checkPier b ps)
/-- A round is in time just if the delay is at most 0. -/
theorem delay_good {b : Int} {ps : List (Int × Int)} (hp : Pier b ps) : minOf ((allR b ps).map fun l => lateL ps (stepsL b ps l)) ≤ 0 ↔ goodR b ps ≠ [] := by
  have hne : ((allR b ps).map fun l => lateL ps (stepsL b ps l)) ≠ [] := by
    intro e
    have h := allR_some (b := b) (ps := ps)
    rw [List.map_eq_nil_iff] at e
    rw [e] at h
    cases h
  have key : ∀ l ∈ allR b ps, (inTimeB b ps l = true ↔ lateL ps (stepsL b ps l) ≤ 0) := fun l hl => by
    unfold inTimeB
    rw [decide_eq_true (full_steps hp hl), Bool.true_and, decide_eq_true_eq]
  constructor
  · intro h e
    obtain ⟨l, hl, he⟩ := List.mem_map.1 (minOf_mem hne)
    have h1 : l ∈ goodR b ps := mem_goodR.2 ⟨hl, (key l hl).2 (by rw [he]; exact h)⟩
    rw [e] at h1
    cases h1
  · intro h
    obtain ⟨l, hl⟩ := List.exists_mem_of_ne_nil _ h
    obtain ⟨h1, h2⟩ := mem_goodR.1 hl
    exact Int.le_trans (minOf_le _ (List.mem_map.2 ⟨l, h1, rfl⟩)) ((key l h1).1 h2)
end Go.Proofs.Ytaekjnjignlmoaa

namespace Go.Proofs.Ytaekjnjignlmoaa

/-- The stop at the end e (0: left, 1: right) of a stretch with x stops on the left and y on the right. -/
def stopE (b : Int) (ps : List (Int × Int)) (x y e : Nat) : Nat := if e = 0 then lefts b ps - x else lefts b ps + y - 1
def isE (x y e : Nat) : Bool := if e = 0 then decide (0 < x) else decide (0 < y)
/-- The place of an end; none: it does not exist. -/
def placeE (b : Int) (ps : List (Int × Int)) (x y e : Nat) : Option Int := if x + y = 0 then some b else if isE x y e then some (plc ps (stopE b ps x y e)) else none
/-- The lesser of two numbers, of which those below 0 do not count. -/
def lessE (m n : Int) : Int := if n < 0 then m else if m < 0 ∨ n < m then n else m
/-- The number for an end that is come to from the side f of the stretch without it. -/
def fromE (b : Int) (ps : List (Int × Int)) (num : Nat → Nat → Nat → Int) (x y e f : Nat) : Int :=
  match placeE b ps (x + e - 1) (y - e) f with
  | none => -1
  | some p => if num (x + e - 1) (y - e) f < 0 then -1 else num (x + e - 1) (y - e) f + far p (plc ps (stopE b ps x y e))
def leastE (b : Int) (ps : List (Int × Int)) (num : Nat → Nat → Nat → Int) (x y e : Nat) : Int := lessE (lessE (-1) (fromE b ps num x y e 0)) (fromE b ps num x y e 1)
/-- The least sum that is right for an end, -1: there is none in time, or no such end. -/
def sumE (b : Int) (ps : List (Int × Int)) (num : Nat → Nat → Nat → Int) (x y e : Nat) : Int :=
  if x + y = 0 then 0 else if isE x y e then (if too ps (stopE b ps x y e) < leastE b ps num x y e then -1 else leastE b ps num x y e) else -1
def rightE (b : Int) (ps : List (Int × Int)) (num : Nat → Nat → Nat → Int) (x y e : Nat) : Prop := if sumE b ps num x y e < 0 then num x y e = -1 else 0 ≤ num x y e ∧ num x y e ≤ sumE b ps num x y e
theorem lessE_facts (m n : Int) (hm : -1 ≤ m) (hn : -1 ≤ n) : -1 ≤ lessE m n ∧ (0 ≤ m → 0 ≤ lessE m n ∧ lessE m n ≤ m) ∧ (0 ≤ n → 0 ≤ lessE m n ∧ lessE m n ≤ n) ∧ (0 ≤ lessE m n → lessE m n = m ∨ lessE m n = n) := by
  unfold lessE
  split
  · omega
  · split <;> omega
theorem fromE_ge {b : Int} {ps : List (Int × Int)} {num : Nat → Nat → Nat → Int} {x y e f : Nat} : -1 ≤ fromE b ps num x y e f := by
  unfold fromE
  split
  · omega
  · rename_i p _
    split
    · omega
    · have : 0 ≤ far p (plc ps (stopE b ps x y e)) := by unfold far; split <;> omega
      omega
theorem leastE_facts {b : Int} {ps : List (Int × Int)} {num : Nat → Nat → Nat → Int} {x y e : Nat} : -1 ≤ leastE b ps num x y e ∧ (∀ f : Nat, f < 2 → 0 ≤ fromE b ps num x y e f → 0 ≤ leastE b ps num x y e ∧ leastE b ps num x y e ≤ fromE b ps num x y e f) ∧ (0 ≤ leastE b ps num x y e → ∃ f : Nat, f < 2 ∧ leastE b ps num x y e = fromE b ps num x y e f) := by
  have h0 := fromE_ge (b := b) (ps := ps) (num := num) (x := x) (y := y) (e := e) (f := 0)
  have h1 := fromE_ge (b := b) (ps := ps) (num := num) (x := x) (y := y) (e := e) (f := 1)
  obtain ⟨a1, a2, a3, a4⟩ := lessE_facts (-1) (fromE b ps num x y e 0) (by omega) h0
  obtain ⟨b1, b2, b3, b4⟩ := lessE_facts (lessE (-1) (fromE b ps num x y e 0)) (fromE b ps num x y e 1) a1 h1
  refine ⟨b1, fun f hf hp => ?_, fun h => ?_⟩
  · match f, hf with
    | 0, _ =>
      have := a3 hp
      have := b2 this.1
      unfold leastE
      omega
    | 1, _ => exact b3 hp
  · rcases b4 h with h2 | h2
    · have h3 : 0 ≤ lessE (-1) (fromE b ps num x y e 0) := by unfold leastE at h; omega
      rcases a4 h3 with h4 | h4
      · omega
      · exact ⟨0, by omega, h2.trans h4⟩
    · exact ⟨1, by omega, h2⟩

/-! ### Walks in time, and where they stand -/
/-- A walk under way that has been in time so far. -/
def InT (ps : List (Int × Int)) (s : St) : Prop := ∀ i : Nat, s.lo ≤ i → i < s.hi → nth s.out i ≤ too ps i
/-- The side on which a walk stands: the end that it has come to last. -/
def sideOf (b : Int) (ps : List (Int × Int)) (s : St) (e : Nat) : Prop := e < 2 ∧ placeE b ps (lefts b ps - s.lo) (s.hi - lefts b ps) e = some s.at_
/-- How a walk goes on, as an end that is come to from another one. -/
structure Step (b : Int) (ps : List (Int × Int)) (s t : St) (i e : Nat) : Prop where
  n : t.n = s.n + far s.at_ (plc ps i)
  at_ : t.at_ = plc ps i
  own : nth t.out i = t.n
  before : lefts b ps - t.lo + e - 1 = lefts b ps - s.lo ∧ t.hi - lefts b ps - e = s.hi - lefts b ps
  stop : stopE b ps (lefts b ps - t.lo) (t.hi - lefts b ps) e = i
  is_ : isE (lefts b ps - t.lo) (t.hi - lefts b ps) e = true
  e2 : e < 2
theorem step_of {b : Int} {ps : List (Int × Int)} {l : List Nat} {s t : St} {i : Nat} (hp : Pier b ps) (hk : StOk b ps l s) (h : stF ps (some s) i = some t) (hi : i < ps.length) : ∃ e, Step b ps s t i e ∧ ((e = 0 ∧ t.lo = i ∧ s.lo = i + 1 ∧ t.hi = s.hi) ∨ (e = 1 ∧ t.lo = s.lo ∧ s.hi = i ∧ t.hi = i + 1)) := by
  have h10 := hp.hi
  have hlo := hk.lo
  have hhi := hk.hi
  simp only [stF, Option.bind_some] at h
  split at h
  · rename_i c
    cases h
    refine ⟨0, ⟨rfl, rfl, ?_, ⟨?_, rfl⟩, ?_, ?_, by omega⟩, .inl ⟨rfl, rfl, c, rfl⟩⟩
    · show nth (s.out.set i _) i = _
      rw [nth_setL (by rw [hk.out]; omega), if_pos rfl]
      rfl
    · show lefts b ps - i + 0 - 1 = lefts b ps - s.lo
      omega
    · show stopE b ps (lefts b ps - i) (s.hi - lefts b ps) 0 = i
      unfold stopE
      rw [if_pos rfl]
      omega
    · show isE (lefts b ps - i) (s.hi - lefts b ps) 0 = true
      unfold isE
      rw [if_pos rfl, decide_eq_true_eq]
      omega
  · split at h
    · rename_i c1 c
      cases h
      refine ⟨1, ⟨rfl, rfl, ?_, ⟨?_, ?_⟩, ?_, ?_, by omega⟩, .inr ⟨rfl, rfl, c, rfl⟩⟩
      · show nth (s.out.set i _) i = _
        rw [nth_setL (by rw [hk.out]; omega), if_pos rfl]
        rfl
      · show lefts b ps - s.lo + 1 - 1 = lefts b ps - s.lo
        omega
      · show i + 1 - lefts b ps - 1 = s.hi - lefts b ps
        omega
      · show stopE b ps (lefts b ps - s.lo) (i + 1 - lefts b ps) 1 = i
        unfold stopE
        rw [if_neg (by omega)]
        omega
      · show isE (lefts b ps - s.lo) (i + 1 - lefts b ps) 1 = true
        unfold isE
        rw [if_neg (by omega), decide_eq_true_eq]
        omega
    · cases h
/-- All stops of a walk that ends in time were in time. -/
def InTime (b : Int) (ps : List (Int × Int)) (l : List Nat) : Prop := ∀ s, stAt b ps l = some s → InT ps s
theorem st_split {b : Int} {ps : List (Int × Int)} {l : List Nat} {i : Nat} {t : St} (h : stAt b ps (l ++ [i]) = some t) : ∃ s, stAt b ps l = some s ∧ stF ps (some s) i = some t := by
  rw [stAt_snoc] at h
  cases hs : stAt b ps l with
  | none => rw [hs] at h; cases h
  | some s => rw [hs] at h; exact ⟨s, rfl, h⟩
theorem inT_prev {ps : List (Int × Int)} {s t : St} {i : Nat} (ho : s.out.length = 10) (h10 : ps.length ≤ 10) (hi : i < ps.length) (h : stF ps (some s) i = some t) (ht : InT ps t) : InT ps s := fun j h1 h2 => by
  simp only [stF, Option.bind_some] at h
  split at h
  · rename_i c
    cases h
    have h3 := ht j (by show i ≤ j; omega) h2
    have e : nth (s.out.set i (s.n + far s.at_ (plc ps i))) j = nth s.out j := by rw [nth_setL (by omega), if_neg (by omega)]
    have h4 : nth (s.out.set i (s.n + far s.at_ (plc ps i))) j ≤ too ps j := h3
    rwa [e] at h4
  · split at h
    · rename_i c1 c
      cases h
      have h3 := ht j h1 (by show j < i + 1; omega)
      have e : nth (s.out.set i (s.n + far s.at_ (plc ps i))) j = nth s.out j := by rw [nth_setL (by omega), if_neg (by omega)]
      have h4 : nth (s.out.set i (s.n + far s.at_ (plc ps i))) j ≤ too ps j := h3
      rwa [e] at h4
    · cases h
/-- Right numbers are no greater than the steps of walks in time. -/
theorem walk_bound {b : Int} {ps : List (Int × Int)} (hp : Pier b ps) {num : Nat → Nat → Nat → Int} (hr : ∀ x y e : Nat, x ≤ lefts b ps → y ≤ ps.length - lefts b ps → e < 2 → rightE b ps num x y e) :
    ∀ (m : Nat) (l : List Nat), l.length = m → ∀ s, (∀ i ∈ l, i < ps.length) → stAt b ps l = some s → InT ps s → ∃ e, sideOf b ps s e ∧ 0 ≤ num (lefts b ps - s.lo) (s.hi - lefts b ps) e ∧ num (lefts b ps - s.lo) (s.hi - lefts b ps) e ≤ s.n := by
  intro m
  induction m with
  | zero =>
    intro l hl s _ h _
    obtain rfl := List.eq_nil_of_length_eq_zero hl
    cases h
    have h1 := hr 0 0 0 (Nat.zero_le _) (Nat.zero_le _) (by omega)
    unfold rightE sumE at h1
    rw [if_pos rfl, if_neg (by omega)] at h1
    refine ⟨0, ⟨by omega, ?_⟩, ?_, ?_⟩
    · show placeE b ps (lefts b ps - lefts b ps) (lefts b ps - lefts b ps) 0 = some b
      rw [Nat.sub_self]
      rfl
    · show 0 ≤ num (lefts b ps - lefts b ps) (lefts b ps - lefts b ps) 0
      rw [Nat.sub_self]
      exact h1.1
    · show num (lefts b ps - lefts b ps) (lefts b ps - lefts b ps) 0 ≤ 0
      rw [Nat.sub_self]
      exact h1.2
  | succ m ih =>
    intro l hl t hall h hin
    have hne : l ≠ [] := by intro e; rw [e] at hl; cases hl
    have hsp := List.dropLast_concat_getLast hne
    have hlast : l.getLast hne < ps.length := hall _ (List.getLast_mem hne)
    have hall2 : ∀ i ∈ l.dropLast, i < ps.length := fun i hi => hall i (List.dropLast_subset l hi)
    have hkt := stOk hp l t hall h
    rw [← hsp] at h
    obtain ⟨s, hs, hst⟩ := st_split h
    have hk := stOk hp l.dropLast s hall2 hs
    have hm := hk.many
    have hin2 := inT_prev hk.out hp.hi hlast hst hin
    obtain ⟨f, hf, h0, h1⟩ := ih l.dropLast (by rw [List.length_dropLast, hl]; rfl) s hall2 hs hin2
    obtain ⟨e, hstep, hor⟩ := step_of hp hk hst hlast
    have hfrom : fromE b ps num (lefts b ps - t.lo) (t.hi - lefts b ps) e f = num (lefts b ps - s.lo) (s.hi - lefts b ps) f + far s.at_ (plc ps (l.getLast hne)) := by
      unfold fromE
      rw [hstep.before.1, hstep.before.2, hf.2, hstep.stop]
      simp only
      rw [if_neg (by omega)]
    have hfar : 0 ≤ far s.at_ (plc ps (l.getLast hne)) := by unfold far; split <;> omega
    obtain ⟨_, l2, _⟩ := leastE_facts (b := b) (ps := ps) (num := num) (x := lefts b ps - t.lo) (y := t.hi - lefts b ps) (e := e)
    have l3 := l2 f hf.1 (by omega)
    have hto : t.n ≤ too ps (l.getLast hne) := by
      rw [← hstep.own]
      rcases hor with ⟨_, c1, c2, c3⟩ | ⟨_, c1, c2, c3⟩
      · exact hin _ (by omega) (by omega)
      · exact hin _ (by omega) (by omega)
    have hn := hstep.n
    have hR := hr (lefts b ps - t.lo) (t.hi - lefts b ps) e (by omega) (by have := hkt.hi.2; omega) hstep.e2
    have hxy : ¬ lefts b ps - t.lo + (t.hi - lefts b ps) = 0 := by
      have := hkt.lo
      have := hkt.hi.1
      have := hk.lo
      have := hk.hi.1
      omega
    unfold rightE sumE at hR
    rw [if_neg hxy, hstep.is_, if_pos rfl, hstep.stop, if_neg (by omega), if_neg (by omega)] at hR
    refine ⟨e, ⟨hstep.e2, ?_⟩, hR.1, by omega⟩
    unfold placeE
    rw [if_neg hxy, hstep.is_, if_pos rfl, hstep.stop, hstep.at_]
end Go.Proofs.Ytaekjnjignlmoaa

namespace Go.Proofs.Ytaekjnjignlmoaa

def earl (b : Int) (ps : List (Int × Int)) : Nat → Nat → Nat → Nat → Int
  | 0, _, _, _ => 0
  | f + 1, x, y, e => sumE b ps (earl b ps f) x y e
def early (b : Int) (ps : List (Int × Int)) (x y e : Nat) : Int := earl b ps (x + y) x y e
theorem prev_sum {x y e : Nat} (he : e < 2) (h : isE x y e = true) : x + e - 1 + (y - e) + 1 = x + y := by
  unfold isE at h
  match e, he with
  | 0, _ => simp at h; omega
  | 1, _ => simp at h; omega
theorem sumE_congr {b : Int} {ps : List (Int × Int)} {num num' : Nat → Nat → Nat → Int} {x y e : Nat} (h : isE x y e = true → ∀ f : Nat, f < 2 → num (x + e - 1) (y - e) f = num' (x + e - 1) (y - e) f) : sumE b ps num x y e = sumE b ps num' x y e := by
  unfold sumE
  by_cases h0 : x + y = 0
  · rw [if_pos h0, if_pos h0]
  · rw [if_neg h0, if_neg h0]
    cases hi : isE x y e with
    | false => rfl
    | true =>
      have h1 : ∀ f : Nat, f < 2 → fromE b ps num x y e f = fromE b ps num' x y e f := fun f hf => by
        unfold fromE
        rw [h hi f hf]
      have h2 : leastE b ps num x y e = leastE b ps num' x y e := by
        unfold leastE
        rw [h1 0 (by omega), h1 1 (by omega)]
      rw [h2]
theorem earl_fuel {b : Int} {ps : List (Int × Int)} : ∀ (g f x y e : Nat), x + y ≤ g → x + y ≤ f → e < 2 → earl b ps f x y e = earl b ps g x y e
  | 0, 0, _, _, _, _, _, _ => rfl
  | 0, f + 1, x, y, e, hg, _, _ => by
    show sumE b ps (earl b ps f) x y e = 0
    unfold sumE
    rw [if_pos (by omega)]
  | g + 1, 0, x, y, e, _, hf, _ => by
    show 0 = sumE b ps (earl b ps g) x y e
    unfold sumE
    rw [if_pos (by omega)]
  | g + 1, f + 1, x, y, e, hg, hf, he => sumE_congr fun hi q hq => by
    have := prev_sum he hi
    exact earl_fuel g f _ _ q (by omega) (by omega) hq
theorem early_eq {b : Int} {ps : List (Int × Int)} {x y e : Nat} (he : e < 2) : early b ps x y e = sumE b ps (early b ps) x y e := by
  rw [early, earl_fuel (x + y + 1) (x + y) x y e (by omega) (Nat.le_refl _) he]
  exact sumE_congr fun hi q hq => by
    have := prev_sum he hi
    exact earl_fuel _ _ _ _ q (Nat.le_refl _) (by omega) hq
theorem sumE_ge {b : Int} {ps : List (Int × Int)} {num : Nat → Nat → Nat → Int} {x y e : Nat} : -1 ≤ sumE b ps num x y e := by
  unfold sumE
  split
  · omega
  · split
    · split
      · omega
      · exact leastE_facts.1
    · omega
theorem early_right (b : Int) (ps : List (Int × Int)) (x y e : Nat) (he : e < 2) : rightE b ps (early b ps) x y e := by
  unfold rightE
  have h := early_eq (b := b) (ps := ps) (x := x) (y := y) he
  have h1 := sumE_ge (b := b) (ps := ps) (num := early b ps) (x := x) (y := y) (e := e)
  split <;> omega
/-- What is earliest is the step of a walk in time. -/
theorem early_walk {b : Int} {ps : List (Int × Int)} (hp : Pier b ps) : ∀ (m x y e : Nat), x + y = m → x ≤ lefts b ps → y ≤ ps.length - lefts b ps → e < 2 → 0 ≤ early b ps x y e →
    ∃ (l : List Nat) (s : St), stAt b ps l = some s ∧ (∀ i ∈ l, i < ps.length) ∧ lefts b ps - s.lo = x ∧ s.hi - lefts b ps = y ∧ InT ps s ∧ placeE b ps x y e = some s.at_ ∧ s.n = early b ps x y e := by
  intro m
  induction m with
  | zero =>
    intro x y e hm _ _ _ _
    obtain rfl : x = 0 := by omega
    obtain rfl : y = 0 := by omega
    refine ⟨[], st0 b ps, rfl, by simp, Nat.sub_self _, Nat.sub_self _, fun i h1 h2 => ?_, rfl, rfl⟩
    have h3 : lefts b ps ≤ i := h1
    have h4 : i < lefts b ps := h2
    omega
  | succ m ih =>
    intro x y e hm hx hy he h0
    have h10 := hp.hi
    have hle := lefts_le b ps
    have heq := early_eq (b := b) (ps := ps) (x := x) (y := y) he
    rw [heq] at h0
    unfold sumE at h0 heq
    rw [if_neg (by omega)] at h0 heq
    cases hi : isE x y e with
    | false => rw [hi] at h0; simp at h0
    | true =>
      rw [hi, if_pos rfl] at h0 heq
      by_cases hto : too ps (stopE b ps x y e) < leastE b ps (early b ps) x y e
      · rw [if_pos hto] at h0
        omega
      · rw [if_neg hto] at h0 heq
        obtain ⟨f, hf, hef⟩ := leastE_facts.2.2 h0
        have hps := prev_sum he hi
        rw [hef] at h0
        unfold fromE at h0
        cases hpl : placeE b ps (x + e - 1) (y - e) f with
        | none => rw [hpl] at h0; simp at h0
        | some p =>
          rw [hpl] at h0
          simp only at h0
          by_cases hneg : early b ps (x + e - 1) (y - e) f < 0
          · rw [if_pos hneg] at h0
            omega
          · rw [if_neg hneg] at h0
            have hval : leastE b ps (early b ps) x y e = early b ps (x + e - 1) (y - e) f + far p (plc ps (stopE b ps x y e)) := by
              rw [hef]
              unfold fromE
              rw [hpl]
              simp only
              rw [if_neg hneg]
            have hx' : x + e - 1 ≤ lefts b ps := by
              match e, he with
              | 0, _ => omega
              | 1, _ => omega
            obtain ⟨l, s, hs, hall, h1, h2, hin, hat, hn⟩ := ih (x + e - 1) (y - e) f (by omega) hx' (by omega) hf (by omega)
            rw [hpl] at hat
            obtain rfl : p = s.at_ := Option.some.inj hat
            have hk := stOk hp l s hall hs
            have hlo := hk.lo
            have hhi := hk.hi
            have hout := hk.out
            -- the stop that comes next
            obtain ⟨i, hie⟩ : ∃ i, stopE b ps x y e = i := ⟨_, rfl⟩
            rw [hie] at hval hto
            match e, he with
            | 0, _ =>
              unfold isE at hi
              unfold stopE at hie
              simp at hi
              rw [if_pos rfl] at hie
              have hlo1 : s.lo = i + 1 := by omega
              have hst : stF ps (some s) i = some (move ps s i i s.hi) := by
                simp only [stF, Option.bind_some]
                rw [if_pos hlo1]
              refine ⟨l ++ [i], move ps s i i s.hi, by rw [stAt_snoc, hs, hst], fun j hj => ?_, ?_, ?_, fun j h3 h4 => ?_, ?_, ?_⟩
              · rcases List.mem_append.1 hj with hj | hj
                · exact hall j hj
                · rw [List.mem_singleton.1 hj]; omega
              · show lefts b ps - i = x
                omega
              · show s.hi - lefts b ps = y
                omega
              · show nth (s.out.set i (s.n + far s.at_ (plc ps i))) j ≤ too ps j
                have h3' : i ≤ j := h3
                have h4' : j < s.hi := h4
                rw [nth_setL (by omega)]
                split
                · rename_i c
                  subst c
                  omega
                · exact hin j (by omega) h4'
              · unfold placeE
                rw [if_neg (by omega)]
                unfold isE stopE
                simp
                exact ⟨by omega, by show plc ps (lefts b ps - x) = plc ps i; rw [hie]⟩
              · show s.n + far s.at_ (plc ps i) = early b ps x y 0
                rw [heq, hval, hn]
            | 1, _ =>
              unfold isE at hi
              unfold stopE at hie
              simp at hi
              rw [if_neg (by omega)] at hie
              have hhi1 : s.hi = i := by omega
              have hst : stF ps (some s) i = some (move ps s i s.lo (i + 1)) := by
                simp only [stF, Option.bind_some]
                rw [if_neg (by omega), if_pos hhi1]
              refine ⟨l ++ [i], move ps s i s.lo (i + 1), by rw [stAt_snoc, hs, hst], fun j hj => ?_, ?_, ?_, fun j h3 h4 => ?_, ?_, ?_⟩
              · rcases List.mem_append.1 hj with hj | hj
                · exact hall j hj
                · rw [List.mem_singleton.1 hj]; omega
              · show lefts b ps - s.lo = x
                omega
              · show i + 1 - lefts b ps = y
                omega
              · show nth (s.out.set i (s.n + far s.at_ (plc ps i))) j ≤ too ps j
                have h3' : s.lo ≤ j := h3
                have h4' : j < i + 1 := h4
                rw [nth_setL (by omega)]
                split
                · rename_i c
                  subst c
                  omega
                · exact hin j h3' (by omega)
              · unfold placeE
                rw [if_neg (by omega)]
                unfold isE stopE
                simp
                exact ⟨by omega, by show plc ps (lefts b ps + y - 1) = plc ps i; rw [hie]⟩
              · show s.n + far s.at_ (plc ps i) = early b ps x y 1
                rw [heq, hval, hn]
/-! ### The value of bounds -/
/-- The value of bounds, -1: they have none. -/
def valueE (b : Int) (ps : List (Int × Int)) (num : Nat → Nat → Nat → Int) : Int :=
  lessE (num (lefts b ps) (ps.length - lefts b ps) 0) (num (lefts b ps) (ps.length - lefts b ps) 1)
theorem last_own {b : Int} {ps : List (Int × Int)} (hp : Pier b ps) {l : List Nat} (hne : l ≠ []) (hall : ∀ i ∈ l, i < ps.length) {t : St} (h : stAt b ps l = some t) : lenR b ps l = t.n := by
  have hsp := List.dropLast_concat_getLast hne
  have hlast : l.getLast hne < ps.length := hall _ (List.getLast_mem hne)
  have hall2 : ∀ i ∈ l.dropLast, i < ps.length := fun i hi => hall i (List.dropLast_subset l hi)
  have e1 : lastOf l = l.getLast hne := by
    unfold lastOf
    rw [List.getLast?_eq_some_getLast hne]
    rfl
  unfold lenR
  rw [stepsL_some h, e1]
  rw [← hsp] at h
  obtain ⟨s, hs, hst⟩ := st_split h
  obtain ⟨e, hstep, _⟩ := step_of hp (stOk hp _ s hall2 hs) hst hlast
  exact hstep.own
theorem good_state {b : Int} {ps : List (Int × Int)} (hp : Pier b ps) {l : List Nat} (h : l ∈ goodR b ps) : ∃ s, stAt b ps l = some s ∧ (∀ i ∈ l, i < ps.length) ∧ s.lo = 0 ∧ s.hi = ps.length ∧ InT ps s ∧ lenR b ps l = s.n := by
  obtain ⟨h1, h2⟩ := mem_goodR.1 h
  obtain ⟨s, hs, _, hlo, hhi, _⟩ := full_round hp h1
  obtain ⟨hl, _, hall⟩ := allR_iff.1 h1
  have hne : l ≠ [] := by
    intro e
    rw [e] at hl
    have := hp.lo
    simp at hl
    omega
  refine ⟨s, hs, hall, hlo, hhi, fun i _ hi => ?_, last_own hp hne hall hs⟩
  have h3 := (inTime_iff hp h1).1 h2 i (by omega)
  rwa [stepsL_some hs] at h3
/-- No round in time is shorter than the value of right bounds, which have one if there is such a round. -/
theorem value_le {b : Int} {ps : List (Int × Int)} (hp : Pier b ps) {num : Nat → Nat → Nat → Int} (hr : ∀ x y e : Nat, x ≤ lefts b ps → y ≤ ps.length - lefts b ps → e < 2 → rightE b ps num x y e) (hm : ∀ e : Nat, -1 ≤ num (lefts b ps) (ps.length - lefts b ps) e) {l : List Nat} (h : l ∈ goodR b ps) : 0 ≤ valueE b ps num ∧ valueE b ps num ≤ lenR b ps l := by
  obtain ⟨s, hs, hall, hlo, hhi, hin, hlen⟩ := good_state hp h
  obtain ⟨e, he, h0, h1⟩ := walk_bound hp hr l.length l rfl s hall hs hin
  rw [hlo, hhi, Nat.sub_zero] at h0 h1
  obtain ⟨_, l2, l3, _⟩ := lessE_facts (num (lefts b ps) (ps.length - lefts b ps) 0) (num (lefts b ps) (ps.length - lefts b ps) 1) (hm 0) (hm 1)
  unfold valueE
  match e, he.1 with
  | 0, _ =>
    have := l2 h0
    omega
  | 1, _ =>
    have := l3 h0
    omega
/-- The value of the earliest steps is the length of a round in time. -/
theorem value_early {b : Int} {ps : List (Int × Int)} (hp : Pier b ps) (h : 0 ≤ valueE b ps (early b ps)) : ∃ l ∈ goodR b ps, lenR b ps l = valueE b ps (early b ps) := by
  have hm : ∀ e : Nat, e < 2 → -1 ≤ early b ps (lefts b ps) (ps.length - lefts b ps) e := fun e he => by rw [early_eq he]; exact sumE_ge
  obtain ⟨_, _, _, l4⟩ := lessE_facts _ _ (hm 0 (by omega)) (hm 1 (by omega))
  have hle := lefts_le b ps
  have key : ∀ e : Nat, e < 2 → valueE b ps (early b ps) = early b ps (lefts b ps) (ps.length - lefts b ps) e → ∃ l ∈ goodR b ps, lenR b ps l = valueE b ps (early b ps) := fun e he hv => by
    obtain ⟨l, s, hs, hall, h1, h2, hin, _, hn⟩ := early_walk hp _ _ _ e rfl (Nat.le_refl _) (Nat.le_refl _) he (by omega)
    have hk := stOk hp l s hall hs
    have hlo : s.lo = 0 := by have := hk.lo; have := hp.lo; omega
    have hhi : s.hi = ps.length := by have := hk.hi; omega
    have hmany := hk.many
    have hall2 : l ∈ allR b ps := allR_iff.2 ⟨by omega, by rw [hs]; rfl, hall⟩
    have hne : l ≠ [] := by
      intro e
      rw [e] at hmany
      have := hp.lo
      simp at hmany
      omega
    refine ⟨l, mem_goodR.2 ⟨hall2, (inTime_iff hp hall2).2 fun i hi => ?_⟩, ?_⟩
    · rw [stepsL_some hs]
      exact hin i (by omega) (by omega)
    · rw [last_own hp hne hall hs, hn, hv]
  rcases l4 h with h2 | h2
  · exact key 0 (by omega) h2
  · exact key 1 (by omega) h2
end Go.Proofs.Ytaekjnjignlmoaa

namespace Go.Proofs.Ytaekjnjignlmoaa

def badAt (L : List Int) (n : Nat) (i : Nat) : Bool := outB 0 ((n : Int) - 1) (nth L i) || decide (nth L i ∈ L.take i)
def natsL (L : List Int) : List Nat := L.map Int.toNat
def checkRoundS (b : Int) (ps : List (Int × Int)) (L : List Int) : List Int × Int :=
  if checkPier b ps = 0 then
    (if L.length = ps.length then
      (if (List.range ps.length).any (badAt L ps.length) then ([], 2)
      else if stepsL b ps (natsL L) = zeros then ([], 16)
      else if 0 < lateL ps (stepsL b ps (natsL L)) then ([], 12)
      else ((stepsL b ps (natsL L)).take ps.length, 0))
    else ([], 15))
  else ([], checkPier b ps)
theorem bad_none {L : List Int} {n : Nat} (hl : L.length = n) (h : (List.range n).any (badAt L n) = false) : (∀ x ∈ L, 0 ≤ x ∧ x < n) ∧ ∀ i : Nat, i < n → nth L i ∉ L.take i := by
  have key : ∀ i : Nat, i < n → (0 ≤ nth L i ∧ nth L i ≤ (n : Int) - 1) ∧ nth L i ∉ L.take i := fun i hi => by
    have h1 := List.any_eq_false.1 h i (List.mem_range.2 hi)
    unfold badAt at h1
    rw [Bool.not_eq_true, Bool.or_eq_false_iff, outB_false, decide_eq_false_iff_not] at h1
    exact h1
  refine ⟨fun x hx => ?_, fun i hi => (key i hi).2⟩
  obtain ⟨j, hj, he⟩ := List.getElem_of_mem hx
  have h1 := (key j (by omega)).1
  rw [nth_some (List.getElem?_eq_getElem hj), he] at h1
  omega
theorem natsL_back {L : List Int} (h : ∀ x ∈ L, 0 ≤ x) : (natsL L).map Int.ofNat = L := by
  unfold natsL
  rw [List.map_map]
  conv => rhs; rw [← List.map_id L]
  exact List.map_congr_left fun x hx => by have := h x hx; simp; omega
theorem natsL_lt {L : List Int} {n : Nat} (h : ∀ x ∈ L, 0 ≤ x ∧ x < n) : ∀ i ∈ natsL L, i < n := fun i hi => by
  obtain ⟨x, hx, rfl⟩ := List.mem_map.1 hi
  have := h x hx
  omega
end Go.Proofs.Ytaekjnjignlmoaa
