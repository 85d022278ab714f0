/-
  Plain: the earliest steps as the program finds them, end by end.
-/
import Derived.Test.YtaekjnjignlmoaaEn
import Derived.Test.YtaekjnjignlmoaaPlain
import Derived.Test.YtaekjnjignlmoaaMp
namespace Go.Proofs.Ytaekjnjignlmoaa

abbrev T3 := Nat × Nat × Nat
def castT (x : T3) : Int × Int × Int := ((x.1 : Int), (x.2.1 : Int), (x.2.2 : Int))
theorem castT_inj {x y : T3} (h : castT x = castT y) : x = y := by
  obtain ⟨a, b, c⟩ := x
  obtain ⟨a', b', c'⟩ := y
  simp only [castT, Prod.mk.injEq] at h
  obtain ⟨h1, h2, h3⟩ := h
  simp only [Prod.mk.injEq]
  omega
/-- The number that the program reads off its map. -/
def numF (f : Int × Int × Int → Option Int) (x y e : Nat) : Int := (f ((x : Int), (y : Int), (e : Int))).getD (-1)
/-- One end more. -/
def stepF (b : Int) (ps : List (Int × Int)) (f : Int × Int × Int → Option Int) (x : T3) : Int × Int × Int → Option Int :=
  if 0 ≤ sumE b ps (numF f) x.1 x.2.1 x.2.2 then upd f (castT x) (sumE b ps (numF f) x.1 x.2.1 x.2.2) else cutP f (castT x)
def foldF (b : Int) (ps : List (Int × Int)) (L : List T3) : Int × Int × Int → Option Int := L.foldl (stepF b ps) (fun _ => none)
theorem foldF_snoc (b : Int) (ps : List (Int × Int)) (L : List T3) (x : T3) : foldF b ps (L ++ [x]) = stepF b ps (foldF b ps L) x := by unfold foldF; rw [List.foldl_append]; rfl
def earlyT (b : Int) (ps : List (Int × Int)) (x : T3) : Int := early b ps x.1 x.2.1 x.2.2
/-- The map holds the earliest steps of the ends in L. -/
def Found (b : Int) (ps : List (Int × Int)) (L : List T3) (f : Int × Int × Int → Option Int) : Prop := ∀ x : T3, f (castT x) = if x ∈ L ∧ 0 ≤ earlyT b ps x then some (earlyT b ps x) else none
theorem early_ge {b : Int} {ps : List (Int × Int)} {x y e : Nat} (he : e < 2) : -1 ≤ early b ps x y e := by
  rw [early_eq he]
  exact sumE_ge
theorem Found.snoc {b : Int} {ps : List (Int × Int)} {L : List T3} (h : Found b ps L (foldF b ps L)) {x : T3} (he : x.2.2 < 2) (hp : isE x.1 x.2.1 x.2.2 = true → ∀ f : Nat, f < 2 → (x.1 + x.2.2 - 1, x.2.1 - x.2.2, f) ∈ L) : Found b ps (L ++ [x]) (foldF b ps (L ++ [x])) := by
  have hs : sumE b ps (numF (foldF b ps L)) x.1 x.2.1 x.2.2 = earlyT b ps x := by
    unfold earlyT
    rw [early_eq he]
    refine sumE_congr fun hi f hf => ?_
    have h1 := h (x.1 + x.2.2 - 1, x.2.1 - x.2.2, f)
    have h2 := hp hi f hf
    have h3 : -1 ≤ early b ps (x.1 + x.2.2 - 1) (x.2.1 - x.2.2) f := early_ge hf
    show ((foldF b ps L) (castT (x.1 + x.2.2 - 1, x.2.1 - x.2.2, f))).getD (-1) = _
    rw [h1]
    by_cases h0 : 0 ≤ earlyT b ps (x.1 + x.2.2 - 1, x.2.1 - x.2.2, f)
    · rw [if_pos ⟨h2, h0⟩]
      rfl
    · rw [if_neg (fun e => h0 e.2)]
      have h4 : ¬ 0 ≤ early b ps (x.1 + x.2.2 - 1) (x.2.1 - x.2.2) f := h0
      show (-1 : Int) = _
      omega
  intro y
  rw [foldF_snoc]
  unfold stepF
  rw [hs]
  by_cases h0 : 0 ≤ earlyT b ps x
  · rw [if_pos h0]
    unfold upd
    by_cases hyx : y = x
    · subst hyx
      rw [if_pos rfl, if_pos ⟨List.mem_append_right _ (List.mem_singleton.2 rfl), h0⟩]
    · rw [if_neg (fun e => hyx (castT_inj e)), h y]
      have : y ∈ L ++ [x] ↔ y ∈ L := by simp [hyx]
      simp only [this]
  · rw [if_neg h0]
    unfold cutP
    by_cases hyx : y = x
    · subst hyx
      rw [if_pos rfl, if_neg (fun e => h0 e.2)]
    · rw [if_neg (fun e => hyx (castT_inj e)), h y]
      have : y ∈ L ++ [x] ↔ y ∈ L := by simp [hyx]
      simp only [this]
theorem mem_innE {a b s : Nat} {x : T3} : x ∈ innE a b s ↔ x.1 = a ∧ x.2.1 = b ∧ x.2.2 < s := by
  unfold innE
  rw [List.mem_map]
  constructor
  · rintro ⟨t, ht, rfl⟩
    exact ⟨rfl, rfl, List.mem_range.1 ht⟩
  · rintro ⟨h1, h2, h3⟩
    exact ⟨x.2.2, List.mem_range.2 h3, by rw [← h1, ← h2]⟩
theorem mem_midE {a b : Nat} {x : T3} : x ∈ midE a b ↔ x.1 = a ∧ x.2.1 < b ∧ x.2.2 < 2 := by
  unfold midE
  rw [List.mem_flatMap]
  constructor
  · rintro ⟨y, hy, hx⟩
    obtain ⟨h1, h2, h3⟩ := mem_innE.1 hx
    exact ⟨h1, by rw [h2]; exact List.mem_range.1 hy, h3⟩
  · rintro ⟨h1, h2, h3⟩
    exact ⟨x.2.1, List.mem_range.2 h2, mem_innE.2 ⟨h1, rfl, h3⟩⟩
theorem mem_outE {R a : Nat} {x : T3} : x ∈ outE R a ↔ x.1 < a ∧ x.2.1 ≤ R ∧ x.2.2 < 2 := by
  unfold outE
  rw [List.mem_flatMap]
  constructor
  · rintro ⟨y, hy, hx⟩
    obtain ⟨h1, h2, h3⟩ := mem_midE.1 hx
    exact ⟨by rw [h1]; exact List.mem_range.1 hy, by omega, h3⟩
  · rintro ⟨h1, h2, h3⟩
    exact ⟨x.1, List.mem_range.2 h1, mem_midE.2 ⟨rfl, by omega, h3⟩⟩
theorem mem_endsL {b : Int} {ps : List (Int × Int)} {x : T3} : x ∈ endsL b ps ↔ EndIn b ps x := by
  unfold endsL EndIn
  rw [mem_outE]
  omega
theorem found_inn {b : Int} {ps : List (Int × Int)} {L : List T3} {a c : Nat} (h : Found b ps L (foldF b ps L)) (h0 : 0 < a → ∀ f : Nat, f < 2 → (a - 1, c, f) ∈ L) (h1 : 0 < c → ∀ f : Nat, f < 2 → (a, c - 1, f) ∈ L) :
    ∀ s : Nat, s ≤ 2 → Found b ps (L ++ innE a c s) (foldF b ps (L ++ innE a c s)) := by
  intro s
  induction s with
  | zero => intro _; simpa [innE] using h
  | succ s ih =>
    intro hs
    rw [innE_succ, ← List.append_assoc]
    refine (ih (by omega)).snoc (x := (a, c, s)) (by show s < 2; omega) fun hi f hf => List.mem_append_left _ ?_
    match s, hs with
    | 0, _ =>
      have h2 : 0 < a := by simpa [isE] using hi
      exact h0 h2 f hf
    | 1, _ =>
      have h2 : 0 < c := by simpa [isE] using hi
      exact h1 h2 f hf
theorem found_mid {b : Int} {ps : List (Int × Int)} {L : List T3} {a R : Nat} (h : Found b ps L (foldF b ps L)) (h0 : 0 < a → ∀ c f : Nat, c ≤ R → f < 2 → (a - 1, c, f) ∈ L) :
    ∀ c : Nat, c ≤ R + 1 → Found b ps (L ++ midE a c) (foldF b ps (L ++ midE a c)) := by
  intro c
  induction c with
  | zero => intro _; simpa [midE] using h
  | succ c ih =>
    intro hc
    rw [midE_succ, ← List.append_assoc]
    refine found_inn (ih (by omega)) (fun h2 f hf => List.mem_append_left _ (h0 h2 c f (by omega) hf)) (fun h2 f hf => List.mem_append_right _ (mem_midE.2 ⟨rfl, by show c - 1 < c; omega, hf⟩)) 2 (Nat.le_refl _)
theorem found_out (b : Int) (ps : List (Int × Int)) (R : Nat) : ∀ a : Nat, Found b ps (outE R a) (foldF b ps (outE R a)) := by
  intro a
  induction a with
  | zero => intro x; simp [outE, foldF]
  | succ a ih =>
    rw [outE_succ]
    exact found_mid ih (fun h2 c f hc hf => mem_outE.2 ⟨by show a - 1 < a; omega, hc, hf⟩) (R + 1) (Nat.le_refl _)
/-- Behind all ends the map holds the earliest steps. -/
theorem found_ends (b : Int) (ps : List (Int × Int)) : Found b ps (endsL b ps) (foldF b ps (endsL b ps)) := found_out b ps _ _
/-- The numbers in the map are steps in time. -/
theorem foldF_bd {b : Int} {ps : List (Int × Int)} (hp : Pier b ps) (L : List T3) : ∀ p v, foldF b ps L p = some v → 0 ≤ v ∧ v ≤ 9000 := by
  have key : ∀ (L : List T3) (f : Int × Int × Int → Option Int), (∀ p v, f p = some v → 0 ≤ v ∧ v ≤ 9000) → ∀ p v, L.foldl (stepF b ps) f p = some v → 0 ≤ v ∧ v ≤ 9000 := by
    intro L
    induction L with
    | nil => intro f hf; exact hf
    | cons x L ih =>
      intro f hf
      refine ih _ ?_
      intro p v h
      unfold stepF at h
      split at h
      · rename_i h0
        unfold upd at h
        split at h
        · cases h
          refine ⟨h0, ?_⟩
          unfold sumE
          split
          · omega
          · split
            · split
              · omega
              · have := hp.at_ (stopE b ps x.1 x.2.1 x.2.2)
                omega
            · omega
        · exact hf p v h
      · unfold cutP at h
        split at h
        · cases h
        · exact hf p v h
  exact key L _ (fun p v h => by cases h)
theorem numF_bd {f : Int × Int × Int → Option Int} (h : ∀ p v, f p = some v → 0 ≤ v ∧ v ≤ 9000) (x y e : Nat) : -1 ≤ numF f x y e ∧ numF f x y e ≤ 9000 := by
  unfold numF
  cases hf : f ((x : Int), (y : Int), (e : Int)) with
  | none => exact ⟨Int.le_refl _, by show (-1 : Int) ≤ 9000; omega⟩
  | some v =>
    have := h _ _ hf
    exact ⟨by show -1 ≤ v; omega, by show v ≤ 9000; omega⟩
theorem cut_upd (f : Int × Int × Int → Option Int) (p : Int × Int × Int) (v : Int) : cutP (upd f p v) p = cutP f p := by
  funext q
  unfold cutP upd
  by_cases h : q = p
  · rw [if_pos h, if_pos h]
  · rw [if_neg h, if_neg h, if_neg h]
end Go.Proofs.Ytaekjnjignlmoaa
