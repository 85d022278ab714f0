/-
  Plain facts of what the drops leave: where coppers lie, and how many fall.
  Plain facts: as many coppers fall as the best place proves.
  Plain facts of rows whose places are told.
  Plain facts: going round a wheel, place by place.
-/
import Derived.Test.YtibmpjhffeinoaaGreatGc
import Derived.Deep.QuietTactic
import Derived.ArgAppend
import Derived.BigQuiet
namespace Go.Proofs.YtibmpjhffeinoaaGreat

/-! What a pusher holds behind drops, on a ledge and round a wheel. -/
def stepW (wh : Bool) (b : Int) (s : List Int × Int) (d : Int) : List Int × Int :=
  if wh then (s.1 ++ [wlie b s.1 d], s.2 + wfar b s.1 d) else (s.1 ++ [lie1 b s.1 d], s.2 + (slid1 b s.1 d - d))
def runW (wh : Bool) (b : Int) (ds : List Int) : List Int × Int := ds.foldl (stepW wh b) ([], 0)
theorem runW_nil (wh : Bool) (b : Int) : runW wh b [] = ([], 0) := rfl
theorem runW_snoc (wh : Bool) (b : Int) (ds : List Int) (d : Int) : runW wh b (ds ++ [d]) = stepW wh b (runW wh b ds) d := by simp [runW, List.foldl_append]
theorem runW_flat (b : Int) (ds : List Int) : runW false b ds = runOf b ds := by
  unfold runW runOf
  congr 1
theorem runW_len (wh : Bool) (b : Int) (ds : List Int) : (runW wh b ds).1.length = ds.length := by
  refine snoc_induction (p := fun ds => (runW wh b ds).1.length = ds.length) rfl (fun ds d ih => ?_) ds
  rw [runW_snoc]
  unfold stepW
  split <;> simp [ih]
theorem slid1_full {L : List Int} {b : Nat} (h : slid1 (b : Int) L 0 = b) : ∀ j : Nat, j < b → (j : Int) ∈ L := by
  intro j hj
  refine Classical.byContradiction fun hn => ?_
  have key : ∀ (d a : Nat), j - a = d → a ≤ j → slid1 (b : Int) L (a : Int) ≤ j := by
    intro d
    induction d with
    | zero =>
      intro a h1 h2
      have : a = j := by omega
      subst this
      rw [slid1_stop (fun h => hn h.2)]
      omega
    | succ d ih =>
      intro a h1 h2
      by_cases hm : (a : Int) ∈ L
      · rw [slid1_go ⟨by omega, hm⟩]
        have := ih (a + 1) (by omega) (by omega)
        simpa using this
      · rw [slid1_stop (fun h => hm h.2)]
        omega
  have := key j 0 (by omega) (by omega)
  have h' : slid1 (b : Int) L 0 ≤ j := this
  omega
/-- Places that are all in a list are no more than it has. -/
theorem all_in_length : ∀ (b : Nat) (L : List Int), (∀ j : Nat, j < b → (j : Int) ∈ L) → b ≤ L.length := by
  intro b
  induction b with
  | zero => intro L _; omega
  | succ b ih =>
    intro L h
    have hb := h b (by omega)
    have h2 := ih (L.erase (b : Int)) (fun j hj => (List.mem_erase_of_ne (by omega)).2 (h j (by omega)))
    rw [List.length_erase_of_mem hb] at h2
    have := List.length_pos_of_mem hb
    omega
theorem slid1_room {L : List Int} {b : Nat} (h : L.length < b) : slid1 (b : Int) L 0 < b := by
  have h1 := (slid1_bd (places := (b : Int)) (L := L) (at_ := 0) (by omega)).2
  have : slid1 (b : Int) L 0 ≠ b := fun e => by have := all_in_length b L (slid1_full e); omega
  omega
theorem runW_far {b : Nat} (hb : b ≤ 8) (wh : Bool) (ds : List Int) : (∀ d ∈ ds, 0 ≤ d ∧ d < (b : Int)) → 0 ≤ (runW wh b ds).2 ∧ (runW wh b ds).2 ≤ 16 * ds.length := by
  refine snoc_induction (p := fun ds => (∀ d ∈ ds, 0 ≤ d ∧ d < (b : Int)) → 0 ≤ (runW wh b ds).2 ∧ (runW wh b ds).2 ≤ 16 * ds.length) (by simp [runW]) (fun ds d ih hds => ?_) ds
  · have h1 := ih (fun x hx => hds x (by simp [hx]))
    have h2 := hds d (by simp)
    have h3 := slid1_bd (places := (b : Int)) (L := (runW wh b ds).1) (at_ := d) (by omega)
    have h4 := slid1_bd (places := (b : Int)) (L := (runW wh b ds).1) (at_ := 0) (by omega)
    rw [runW_snoc]
    unfold stepW wfar
    simp only [List.length_append, List.length_cons, List.length_nil]
    split
    · dsimp only
      split <;> omega
    · dsimp only
      omega
end Go.Proofs.YtibmpjhffeinoaaGreat

namespace Go.Proofs.YtibmpjhffeinoaaGreat

theorem lie1_bd {b : Nat} {L : List Int} {d : Int} (hd : 0 ≤ d ∧ d < (b : Int)) : lie1 (b : Int) L d = -1 ∨ (0 ≤ lie1 (b : Int) L d ∧ lie1 (b : Int) L d < b ∧ lie1 (b : Int) L d ∉ L) := by
  have h := slid1_bd (places := (b : Int)) (L := L) (at_ := d) (by omega)
  unfold lie1
  split
  · exact .inl rfl
  · refine .inr ⟨by omega, by omega, fun hm => ?_⟩
    have h1 := slid1_go (places := (b : Int)) (L := L) (at_ := slid1 (b : Int) L d) ⟨by omega, hm⟩
    have h2 : slid1 (b : Int) L (slid1 (b : Int) L d) = slid1 (b : Int) L d := slid1_fix rfl (by omega) (by omega)
    have h3 := (slid1_bd (places := (b : Int)) (L := L) (at_ := slid1 (b : Int) L d + 1) (by omega)).1
    omega
theorem fullIn_neg {L : List Int} : ∀ n : Nat, fullIn (L ++ [(-1 : Int)]) n = fullIn L n := by
  intro n
  induction n with
  | zero => rfl
  | succ n ih =>
    by_cases hm : (n : Int) ∈ L
    · rw [fullIn_yes hm, fullIn_yes (by simp [hm]), ih]
    · rw [fullIn_no hm, fullIn_no (by simp [hm]), ih]
theorem fullIn_same {L : List Int} {k : Nat} : ∀ n : Nat, n ≤ k → fullIn (L ++ [(k : Int)]) n = fullIn L n := by
  intro n
  induction n with
  | zero => intro _; rfl
  | succ n ih =>
    intro h
    have hne : ¬ (n : Int) = (k : Int) := by omega
    by_cases hm : (n : Int) ∈ L
    · rw [fullIn_yes hm, fullIn_yes (by simp [hm]), ih (by omega)]
    · rw [fullIn_no hm, fullIn_no (by simp only [List.mem_append, List.mem_singleton, not_or]; exact ⟨hm, hne⟩), ih (by omega)]
theorem fullIn_one {L : List Int} {k : Nat} (hk : (k : Int) ∉ L) : ∀ n : Nat, k < n → (fullIn (L ++ [(k : Int)]) n).length = (fullIn L n).length + 1 := by
  intro n
  induction n with
  | zero => intro h; omega
  | succ n ih =>
    intro h
    by_cases he : n = k
    · subst he
      rw [fullIn_no hk, fullIn_yes (by simp), fullIn_same n (Nat.le_refl _)]
      simp
    · have hne : ¬ (n : Int) = (k : Int) := by omega
      have := ih (by omega)
      by_cases hm : (n : Int) ∈ L
      · rw [fullIn_yes hm, fullIn_yes (by simp [hm])]
        simp [this]
      · rw [fullIn_no hm, fullIn_no (by simp only [List.mem_append, List.mem_singleton, not_or]; exact ⟨hm, hne⟩), this]
theorem fellOf_nil (p : Int) : fellOf p [] = 0 := by
  have : ∀ n, fullIn [] n = [] := by
    intro n
    induction n with
    | zero => rfl
    | succ n ih => rw [fullIn_no (by simp), ih]
  show ((([] : List Int).length : Nat) : Int) - ((fullIn [] p.toNat).length : Int) = 0
  rw [this]
  rfl
theorem fellOf_snoc {b : Nat} {ds : List Int} {d : Int} (hd : 0 ≤ d ∧ d < (b : Int)) : fellOf (b : Int) (ds ++ [d]) = fellOf (b : Int) ds + (if slid1 (b : Int) (lieOf (b : Int) ds) d = b then 1 else 0) := by
  unfold fellOf fullOf
  rw [lieOf_snoc]
  have hb : (b : Int).toNat = b := by omega
  rw [hb]
  rcases lie1_bd (b := b) (L := lieOf (b : Int) ds) hd with h | ⟨h0, h1, h2⟩
  · rw [h, fullIn_neg]
    have : slid1 (b : Int) (lieOf (b : Int) ds) d = b := by
      unfold lie1 at h
      split at h
      · assumption
      · have := (slid1_bd (places := (b : Int)) (L := lieOf (b : Int) ds) (at_ := d) (by omega)).1; omega
    rw [if_pos this]
    simp only [List.length_append, List.length_cons, List.length_nil]
    omega
  · obtain ⟨k, hk⟩ : ∃ k : Nat, lie1 (b : Int) (lieOf (b : Int) ds) d = k := ⟨(lie1 (b : Int) (lieOf (b : Int) ds) d).toNat, by omega⟩
    have hn : ¬ slid1 (b : Int) (lieOf (b : Int) ds) d = b := fun h => by
      unfold lie1 at h0
      rw [if_pos h] at h0
      omega
    rw [if_neg hn]
    rw [hk] at h0 h1 h2 ⊢
    rw [fullIn_one h2 b (by omega)]
    simp only [List.length_append, List.length_cons, List.length_nil]
    omega
theorem fellOf_nonneg {b : Nat} (ds : List Int) : (∀ d ∈ ds, 0 ≤ d ∧ d < (b : Int)) → 0 ≤ fellOf (b : Int) ds := by
  refine snoc_induction (p := fun ds => (∀ d ∈ ds, 0 ≤ d ∧ d < (b : Int)) → 0 ≤ fellOf (b : Int) ds) (by rw [fellOf_nil]; simp) (fun ds d ih h => ?_) ds
  rw [fellOf_snoc (h d (by simp))]
  have := ih (fun x hx => h x (by simp [hx]))
  split <;> omega
theorem fell_iff {b : Nat} (ds : List Int) : (∀ d ∈ ds, 0 ≤ d ∧ d < (b : Int)) → (0 < fellOf (b : Int) ds ↔ (-1 : Int) ∈ lieOf (b : Int) ds) := by
  refine snoc_induction (p := fun ds => (∀ d ∈ ds, 0 ≤ d ∧ d < (b : Int)) → (0 < fellOf (b : Int) ds ↔ (-1 : Int) ∈ lieOf (b : Int) ds)) (by rw [fellOf_nil]; simp [lieOf, runOf]) (fun ds d ih h => ?_) ds
  have hd := h d (by simp)
  have h1 := ih (fun x hx => h x (by simp [hx]))
  have h2 := fellOf_nonneg ds (fun x hx => h x (by simp [hx]))
  rw [fellOf_snoc hd, lieOf_snoc, List.mem_append, ← h1, List.mem_singleton]
  have h3 := (slid1_bd (places := (b : Int)) (L := lieOf (b : Int) ds) (at_ := d) (by omega)).1
  unfold lie1
  split
  · simp; omega
  · constructor
    · intro h; exact .inl (by omega)
    · rintro (h | h)
      · omega
      · omega
end Go.Proofs.YtibmpjhffeinoaaGreat

namespace Go.Proofs.YtibmpjhffeinoaaGreat

theorem fullIn_above {L : List Int} {k n : Nat} (h : n ≤ k) : (fullIn (L ++ [(k : Int)]) n).length = (fullIn L n).length := by rw [fullIn_same n h]
theorem fullIn_add (L : List Int) (q : Nat) : ∀ m : Nat, (fullIn L (q + m)).length ≤ (fullIn L q).length + m := by
  intro m
  induction m with
  | zero => exact Nat.le_refl _
  | succ m ih =>
    rw [← Nat.add_assoc]
    by_cases hm : ((q + m : Nat) : Int) ∈ L
    · rw [fullIn_yes hm, List.length_append, List.length_singleton]; omega
    · rw [fullIn_no hm]; omega
theorem fullIn_all (L : List Int) (q : Nat) : ∀ m : Nat, (∀ j : Nat, q ≤ j → j < q + m → (j : Int) ∈ L) → (fullIn L (q + m)).length = (fullIn L q).length + m := by
  intro m
  induction m with
  | zero => intro _; rfl
  | succ m ih =>
    intro h
    rw [← Nat.add_assoc, fullIn_yes (h (q + m) (by omega) (by omega)), List.length_append, List.length_singleton, ih (fun j h1 h2 => h j h1 (by omega))]
    omega
/-- What one more copper adds below a place. -/
theorem fullIn_snoc_lie {b q : Nat} {L : List Int} {d : Int} (hd : 0 ≤ d ∧ d < (b : Int)) (hq : q ≤ b) :
    (fullIn (L ++ [lie1 (b : Int) L d]) q).length = (fullIn L q).length + (if slid1 (b : Int) L d < q then 1 else 0) := by
  rcases lie1_bd (b := b) (L := L) hd with h | ⟨h0, h1, h2⟩
  · rw [h, fullIn_neg, if_neg]
    · rfl
    · unfold lie1 at h
      split at h
      · omega
      · have := (slid1_bd (places := (b : Int)) (L := L) (at_ := d) (by omega)).1; omega
  · have e : lie1 (b : Int) L d = slid1 (b : Int) L d := by
      unfold lie1 at h0 ⊢
      split
      · rename_i h; rw [if_pos h] at h0; omega
      · rfl
    obtain ⟨k, hk⟩ : ∃ k : Nat, slid1 (b : Int) L d = k := ⟨(slid1 (b : Int) L d).toNat, by omega⟩
    rw [e] at h0 h1 h2 ⊢
    rw [hk] at h0 h1 h2 ⊢
    by_cases hkq : k < q
    · rw [fullIn_one h2 q hkq, if_pos (by omega)]
    · rw [fullIn_above (by omega), if_neg (by omega)]; rfl
def below (q : Int) (ds : List Int) : Nat := ds.length - ds.countP (geB q)
theorem cnt_snoc (q d : Int) (ds : List Int) : cntGe q (ds ++ [d]) = cntGe q ds + (if q ≤ d then 1 else 0) := by
  by_cases h : q ≤ d
  · rw [cntGe_yes h, if_pos h]
  · rw [cntGe_no h, if_neg h]; omega
/-- The coppers below a place were dropped below it. -/
theorem full_below {b q : Nat} (hq : q ≤ b) (ds : List Int) : (∀ d ∈ ds, 0 ≤ d ∧ d < (b : Int)) → ((fullIn (lieOf (b : Int) ds) q).length : Int) + cntGe q ds ≤ ds.length := by
  refine snoc_induction (p := fun ds => (∀ d ∈ ds, 0 ≤ d ∧ d < (b : Int)) → ((fullIn (lieOf (b : Int) ds) q).length : Int) + cntGe q ds ≤ ds.length) ?_ (fun ds d ih h => ?_) ds
  · intro _
    have : (fullIn (lieOf (b : Int) []) q).length = 0 := by
      have := fullIn_add [] 0 q
      have h0 : fullIn [] 0 = [] := rfl
      have hn : ∀ n, fullIn [] n = [] := by
        intro n
        induction n with
        | zero => rfl
        | succ n ih => rw [fullIn_no (by simp), ih]
      show (fullIn [] q).length = 0
      rw [hn]; rfl
    rw [this]
    simp [cntGe]
  · have hd := h d (by simp)
    have h1 := ih (fun x hx => h x (by simp [hx]))
    have h3 := (slid1_bd (places := (b : Int)) (L := lieOf (b : Int) ds) (at_ := d) (by omega)).1
    rw [lieOf_snoc, fullIn_snoc_lie hd hq, cnt_snoc, List.length_append, List.length_singleton]
    split <;> split <;> omega
/-- .. and all of those, if the place ahead of it is free. -/
theorem full_below_eq {b q : Nat} (hq : q ≤ b) (ds : List Int) : (∀ d ∈ ds, 0 ≤ d ∧ d < (b : Int)) → (q = 0 ∨ ((q : Int) - 1) ∉ lieOf (b : Int) ds) → ((fullIn (lieOf (b : Int) ds) q).length : Int) + cntGe q ds = ds.length := by
  refine snoc_induction (p := fun ds => (∀ d ∈ ds, 0 ≤ d ∧ d < (b : Int)) → (q = 0 ∨ ((q : Int) - 1) ∉ lieOf (b : Int) ds) → ((fullIn (lieOf (b : Int) ds) q).length : Int) + cntGe q ds = ds.length) ?_ (fun ds d ih h hf => ?_) ds
  · intro h _
    have h1 := full_below hq [] (fun d hd => by cases hd)
    have h2 := (cntGe_bd (q : Int) []).1
    simp only [List.length_nil] at h1 ⊢
    omega
  · have hd := h d (by simp)
    rw [lieOf_snoc] at hf
    have hf1 : q = 0 ∨ ((q : Int) - 1) ∉ lieOf (b : Int) ds := by
      rcases hf with hf | hf
      · exact .inl hf
      · exact .inr fun hm => hf (by simp [hm])
    have h1 := ih (fun x hx => h x (by simp [hx])) hf1
    have h3 := slid1_bd (places := (b : Int)) (L := lieOf (b : Int) ds) (at_ := d) (by omega)
    have h4 : d < q → slid1 (b : Int) (lieOf (b : Int) ds) d < q := by
      intro hdq
      rcases hf1 with h0 | hfree
      · omega
      · -- a free place ahead of q stops it
        have key : ∀ (m : Nat) (a : Int), 0 ≤ a → (q : Int) - 1 - a = m → slid1 (b : Int) (lieOf (b : Int) ds) a ≤ (q : Int) - 1 := by
          intro m
          induction m with
          | zero =>
            intro a ha h2
            have : a = (q : Int) - 1 := by omega
            subst this
            rw [slid1_stop (fun h => hfree h.2)]
            omega
          | succ m ihm =>
            intro a ha h2
            by_cases hm : a ∈ lieOf (b : Int) ds
            · rw [slid1_go ⟨by omega, hm⟩]
              exact ihm (a + 1) (by omega) (by omega)
            · rw [slid1_stop (fun h => hm h.2)]
              omega
        have := key ((q : Int) - 1 - d).toNat d hd.1 (by omega)
        omega
    rw [lieOf_snoc, fullIn_snoc_lie hd hq, cnt_snoc, List.length_append, List.length_singleton]
    split <;> split <;> omega
theorem fellOf_eq {b : Nat} (ds : List Int) : fellOf (b : Int) ds = ds.length - (fullIn (lieOf (b : Int) ds) b).length := by
  unfold fellOf fullOf
  rw [show (b : Int).toNat = b by omega]
theorem over_le {b q : Nat} (hq : q ≤ b) (ds : List Int) (h : ∀ d ∈ ds, 0 ≤ d ∧ d < (b : Int)) : overOf (b : Int) ds q ≤ fellOf (b : Int) ds := by
  have h1 := full_below hq ds h
  have h2 := fullIn_add (lieOf (b : Int) ds) q (b - q)
  rw [show q + (b - q) = b by omega] at h2
  rw [fellOf_eq, overOf]
  omega
theorem suffix (L : List Int) : ∀ b : Nat, ∃ q, q ≤ b ∧ (∀ j : Nat, q ≤ j → j < b → (j : Int) ∈ L) ∧ (q = 0 ∨ ((q : Int) - 1) ∉ L) := by
  intro b
  induction b with
  | zero => exact ⟨0, Nat.le_refl _, fun j _ h => by omega, .inl rfl⟩
  | succ b ih =>
    by_cases hm : (b : Int) ∈ L
    · obtain ⟨q, h1, h2, h3⟩ := ih
      refine ⟨q, by omega, fun j hj hb => ?_, h3⟩
      by_cases he : j = b
      · subst he; exact hm
      · exact h2 j hj (by omega)
    · exact ⟨b + 1, Nat.le_refl _, fun j h1 h2 => by omega, .inr (by rw [show ((b + 1 : Nat) : Int) - 1 = (b : Int) by omega]; exact hm)⟩
theorem over_most {b : Nat} (ds : List Int) (h : ∀ d ∈ ds, 0 ≤ d ∧ d < (b : Int)) (h0 : 0 < fellOf (b : Int) ds) : ∃ q : Nat, q < b ∧ overOf (b : Int) ds q = fellOf (b : Int) ds := by
  obtain ⟨q, h1, h2, h3⟩ := suffix (lieOf (b : Int) ds) b
  have e1 := full_below_eq h1 ds h h3
  have e2 := fullIn_all (lieOf (b : Int) ds) q (b - q) (fun j hj hb => h2 j hj (by omega))
  rw [show q + (b - q) = b by omega] at e2
  have e3 : overOf (b : Int) ds q = fellOf (b : Int) ds := by
    rw [fellOf_eq, overOf]
    omega
  refine ⟨q, ?_, e3⟩
  refine Nat.lt_of_le_of_ne h1 fun he => ?_
  subst he
  have : cntGe (q : Int) ds = 0 := by
    unfold cntGe
    rw [List.countP_eq_zero.2]
    · rfl
    · intro d hd
      have := h d hd
      simp [geB]
      omega
  rw [overOf, this] at e3
  omega
end Go.Proofs.YtibmpjhffeinoaaGreat

namespace Go.Proofs.YtibmpjhffeinoaaGreat

def nth (xs : List Int) (i : Nat) : Int := xs[i]?.getD 0
def waysIn (xs : List Int) (k : Nat) : Int := (List.range k).foldl (fun n i => n * runR (xs.take i) (nth xs i)) 1
theorem waysIn_succ (xs : List Int) (k : Nat) : waysIn xs (k + 1) = waysIn xs k * runR (xs.take k) (nth xs k) := by simp [waysIn, List.range_succ]
/-- The first k are each at a place of its own. -/
def Fresh (xs : List Int) (k : Nat) : Prop := ∀ i : Nat, i < k → nth xs i ∉ xs.take i
theorem fresh_succ {xs : List Int} {k : Nat} (h : Fresh xs k) (h1 : nth xs k ∉ xs.take k) : Fresh xs (k + 1) := fun i hi => by
  by_cases he : i = k
  · subst he; exact h1
  · exact h i (by omega)
theorem fresh_full {b : Nat} {xs : List Int} (hb : ∀ x ∈ xs, 0 ≤ x ∧ x < (b : Int)) : ∀ k : Nat, k ≤ xs.length → Fresh xs k → (fullIn (xs.take k) b).length = k := by
  intro k
  induction k with
  | zero =>
    intro _ _
    have hn : ∀ n, fullIn [] n = [] := by
      intro n
      induction n with
      | zero => rfl
      | succ n ih => rw [fullIn_no (by simp), ih]
    rw [List.take_zero, hn]
    rfl
  | succ k ih =>
    intro hk hf
    obtain ⟨x, hx⟩ : ∃ x, xs[k]? = some x := ⟨xs[k], List.getElem?_eq_getElem (by omega)⟩
    have hxm := hb x (List.mem_of_getElem? hx)
    have hfx := hf k (by omega)
    unfold nth at hfx
    rw [hx, Option.getD_some] at hfx
    obtain ⟨m, rfl⟩ : ∃ m : Nat, x = m := ⟨x.toNat, by omega⟩
    rw [List.take_add_one, hx, Option.toList_some, fullIn_one hfx b (by omega), ih (by omega) (fun i hi => hf i (by omega))]
theorem fresh_le {b : Nat} {xs : List Int} (hb : ∀ x ∈ xs, 0 ≤ x ∧ x < (b : Int)) {k : Nat} (hk : k ≤ xs.length) (hf : Fresh xs k) : k ≤ b := by
  have h1 := fresh_full hb k hk hf
  have h2 := fullIn_le (xs.take k) b
  omega
theorem pow8_le {k : Nat} (h : k ≤ 8) : (8 : Int) ^ k ≤ 16777216 := by
  have : k = 0 ∨ k = 1 ∨ k = 2 ∨ k = 3 ∨ k = 4 ∨ k = 5 ∨ k = 6 ∨ k = 7 ∨ k = 8 := by omega
  rcases this with h | h | h | h | h | h | h | h | h <;> subst h <;> decide
theorem waysIn_bd {b : Nat} (hb8 : b ≤ 8) {xs : List Int} (hb : ∀ x ∈ xs, 0 ≤ x ∧ x < (b : Int)) : ∀ k : Nat, k ≤ xs.length → 1 ≤ waysIn xs k ∧ waysIn xs k ≤ 8 ^ k := by
  intro k
  induction k with
  | zero => intro _; simp [waysIn]
  | succ k ih =>
    intro hk
    obtain ⟨h1, h2⟩ := ih (by omega)
    obtain ⟨x, hx⟩ : ∃ x, xs[k]? = some x := ⟨xs[k], List.getElem?_eq_getElem (by omega)⟩
    have hxm := hb x (List.mem_of_getElem? hx)
    have hr := runR_bd (xs.take k) hxm.1
    have e : nth xs k = x := by rw [nth, hx]; rfl
    rw [waysIn_succ, e, Int.pow_succ]
    refine ⟨?_, Int.mul_le_mul h2 (by omega) (by omega) (by have : (0 : Int) ≤ 8 ^ k := Int.pow_nonneg (by omega); omega)⟩
    have := Int.mul_le_mul h1 hr.1 (by omega) (by omega)
    omega
/-- Places that follow one another, below and with a taken one. -/
theorem runDown_snoc (L : List Int) (x : Int) : ∀ (f : Nat) (q : Int), q < x → runDown (L ++ [x]) f q = runDown L f q := by
  intro f
  induction f with
  | zero => intro q _; rfl
  | succ f ih =>
    intro q hq
    unfold runDown
    have : q ∈ L ++ [x] ↔ q ∈ L := by simp; omega
    simp only [this, ih (q - 1) (by omega)]
theorem run_own (L : List Int) (x : Nat) : runDown (L ++ [(x : Int)]) (x + 1) (x : Int) = runR L (x : Int) := by
  unfold runR
  rw [runDown, if_pos (by simp), runDown_snoc L _ _ _ (by omega)]
  rfl
theorem lie_own {b : Nat} {L : List Int} {x : Int} (h0 : 0 ≤ x ∧ x < (b : Int)) (hx : x ∉ L) : slid1 (b : Int) L x = x ∧ lie1 (b : Int) L x = x := by
  have h : slid1 (b : Int) L x = x := slid1_stop (fun h => hx h.2)
  refine ⟨h, ?_⟩
  unfold lie1
  rw [h, if_neg (by omega)]
end Go.Proofs.YtibmpjhffeinoaaGreat

namespace Go.Proofs.YtibmpjhffeinoaaGreat

/-- Under way round a wheel from d on: at place q, s slid in all. -/
def WGo (b : Int) (L : List Int) (d s0 q s : Int) : Prop :=
  0 ≤ q ∧ q < b ∧ ((d ≤ q ∧ slid1 b L d = slid1 b L q ∧ s = s0 + (q - d)) ∨ (slid1 b L d = b ∧ slid1 b L 0 = slid1 b L q ∧ s = s0 + (b - d) + q))
theorem WGo.start {b : Int} {L : List Int} {d s0 : Int} (h : 0 ≤ d ∧ d < b) : WGo b L d s0 d s0 := ⟨h.1, h.2, .inl ⟨Int.le_refl _, rfl, by omega⟩⟩
theorem WGo.bd {b : Int} {L : List Int} {d s0 q s : Int} (h : WGo b L d s0 q s) (hd : 0 ≤ d ∧ d < b) : s0 ≤ s ∧ s < s0 + 2 * b := by
  obtain ⟨h1, h2, h3 | h3⟩ := h <;> omega
theorem WGo.step {b : Nat} {L : List Int} {d s0 q s : Int} (h : WGo (b : Int) L d s0 q s) (hm : q ∈ L) (hr : L.length < b) : WGo (b : Int) L d s0 ((q + 1) % (b : Int)) (s + 1) := by
  obtain ⟨h1, h2, h3⟩ := h
  have hgo := slid1_go (places := (b : Int)) (L := L) (at_ := q) ⟨h2, hm⟩
  by_cases hq : q + 1 < (b : Int)
  · rw [Int.emod_eq_of_lt (by omega) hq]
    refine ⟨by omega, hq, ?_⟩
    rcases h3 with ⟨h4, h5, h6⟩ | ⟨h4, h5, h6⟩
    · exact .inl ⟨by omega, h5.trans hgo, by omega⟩
    · exact .inr ⟨h4, h5.trans hgo, by omega⟩
  · have he : q + 1 = (b : Int) := by omega
    have hb : slid1 (b : Int) L (q + 1) = b := by rw [he, slid1_stop (by omega)]
    rw [he, Int.emod_self]
    refine ⟨Int.le_refl _, by omega, ?_⟩
    rcases h3 with ⟨h4, h5, h6⟩ | ⟨h4, h5, h6⟩
    · exact .inr ⟨by rw [h5, hgo, hb], rfl, by omega⟩
    · have := slid1_room hr
      rw [h5, hgo, hb] at this
      omega
theorem WGo.done {b : Int} {L : List Int} {d s0 q s : Int} (h : WGo b L d s0 q s) (hm : q ∉ L) : wlie b L d = q ∧ s = s0 + wfar b L d := by
  obtain ⟨h1, h2, h3⟩ := h
  have hq : slid1 b L q = q := slid1_stop (fun h => hm h.2)
  unfold wlie wfar
  rcases h3 with ⟨h4, h5, h6⟩ | ⟨h4, h5, h6⟩
  · rw [h5, hq, if_neg (by omega), if_neg (by omega)]
    exact ⟨rfl, by omega⟩
  · rw [h4, if_pos rfl, if_pos rfl, h5, hq]
    exact ⟨rfl, by omega⟩
theorem runW_step {wh : Bool} {b : Int} {ds : List Int} {k : Nat} {x : Int} (h : ds[k]? = some x) : runW wh b (ds.take (k + 1)) = stepW wh b (runW wh b (ds.take k)) x := by
  rw [take_snoc h, runW_snoc]
end Go.Proofs.YtibmpjhffeinoaaGreat

namespace Go.Proofs.YtibmpjhffeinoaaGreat
open Go.RowKit Go.Shelf

/-- Dropping a copper on a pusher, flat or round a wheel. -/
theorem lDrop (b g base a : Nat) (wh : Bool) (A : Option Addr) (n c : Nat) (L : List Int) (s : Int) (w : World) (hb8 : b ≤ 8) (ha : a < b) (hn : n ≤ 1048576) (hs : 0 ≤ s ∧ s ≤ 1048576)
    (hfr : wh = true → slid1 (b : Int) L 0 < (b : Int)) (hp : Pu w base g (b : Int) wh A n c L s) :
    Calls Tryz.prog 167 #[.pointer (some ⟨g, 0, none⟩), .int .i64 (a : Int)] w fun e w' => e = .returned (.tuple #[]) ∧ ∃ (A' : Option Addr) (c' : Nat), Pu w' base g (b : Int) wh A' (n + 1) c' (stepW wh (b : Int) (L, s) (a : Int)).1 (stepW wh (b : Int) (L, s) (a : Int)).2 ∧ Below base w w' := by
  cases wh with
  | false => exact drop_flat b g base a A n c L s w hb8 ha hn hs hp
  | true => exact drop_wheel b g base a A n c L s w hb8 ha hn hs (hfr rfl) hp

theorem lOpen_err (p : Int) (A : Option Addr) (n c : Nat) (ds : List Int) (wh : Bool) (w : World) (hx : Ri w w.heap.size A n ds) (hn : n ≤ 1099511627776) (r : Int) (HR : Hid (checkDrops p ds = r)) (h0 : (r != 0) = true) :
    Calls Tryz.prog 66 #[.int .i64 p, .slice A n c, .bool wh] w fun e w' => e = .returned (.tuple #[.pointer none, .int .i64 r]) ∧ Below w.heap.size w w' := by
  go_enter Tryz.func66, Tryz.ntmps66
  go_wp2_with (go_at_call 166; refine (lCheckDrops _ _ _ _ _ _ hx hn _ HR).mono ?_; rintro e w1 ⟨rfl, hb⟩)
  go_ret2
  exact ⟨rfl, hb⟩
theorem lOpen_many (p : Int) (A : Option Addr) (n c : Nat) (ds : List Int) (w : World) (hx : Ri w w.heap.size A n ds) (hn : n ≤ 1099511627776) (HR : Hid (checkDrops p ds = 0)) (h0 : p < (n : Int)) :
    Calls Tryz.prog 66 #[.int .i64 p, .slice A n c, .bool true] w fun e w' => e = .returned (.tuple #[.pointer none, .int .i64 10]) ∧ Below w.heap.size w w' := by
  go_enter Tryz.func66, Tryz.ntmps66
  go_wp2_with (go_at_call 166; refine (lCheckDrops _ _ _ _ _ _ hx hn _ HR).mono ?_; rintro e w1 ⟨rfl, hb⟩)
  go_ret2
  exact ⟨rfl, hb⟩

theorem lOpen (b : Nat) (A : Option Addr) (n c : Nat) (ds : List Int) (wh : Bool) (w : World) (hx : Ri w w.heap.size A n ds) (hv : Valid (b : Int) ds) (hw : wh = true → n ≤ b) :
    Calls Tryz.prog 66 #[.int .i64 (b : Int), .slice A n c, .bool wh] w fun e w' => ∃ (g : Nat) (A' : Option Addr) (c' : Nat), e = .returned (.tuple #[.pointer (some ⟨g, 0, none⟩), .int .i64 0]) ∧
      Pu w' w.heap.size g (b : Int) wh A' n c' (runW wh (b : Int) ds).1 (runW wh (b : Int) ds).2 ∧ Below w.heap.size w w' := by
  have HL := Lib.hid hx.len
  have h2 := hv.hi
  have hb8 : b ≤ 8 := by omega
  have hn : n ≤ 12 := by rw [← HL.out]; exact hv.many
  have HV := Lib.hid hv
  have HR : Hid (checkDrops (b : Int) ds = 0) := Lib.hid (checkDrops_valid.2 hv)
  clear hv h2
  have hfr : ∀ k : Nat, k < n → (wh = true → slid1 (b : Int) (runW wh (b : Int) (ds.take k)).1 0 < (b : Int)) := fun k hk hwh => by
    refine slid1_room ?_
    rw [runW_len, List.length_take]
    have := hw hwh
    omega
  have hfar : ∀ k : Nat, 0 ≤ (runW wh (b : Int) (ds.take k)).2 ∧ (runW wh (b : Int) (ds.take k)).2 ≤ 1048576 := fun k => by
    have h := runW_far hb8 wh (ds.take k) (fun d hd => HV.out.all d (List.mem_of_mem_take hd))
    have h2 := HV.out.many
    rw [List.length_take] at h
    omega
  have hda : ∀ (k : Nat) (x : Int), ds[k]? = some x → ∃ a : Nat, x = a ∧ a < b := fun k x hk => by
    have h := HV.out.all x (List.mem_of_getElem? hk)
    exact ⟨x.toNat, by omega, by omega⟩
  have hst : ∀ (k : Nat) (x : Int), ds[k]? = some x → runW wh (b : Int) (ds.take (k + 1)) = stepW wh (b : Int) (runW wh (b : Int) (ds.take k)) x := fun k x hk => by
    rw [List.take_add_one, hk, ← runW_snoc]
    rfl
  have HT : Hid (ds.take n = ds) := Lib.hid (List.take_of_length_le (by rw [HL.out]; exact Nat.le_refl _))
  cases wh
  · clear hw
    go_enter Tryz.func66, Tryz.ntmps66
    go_wp2_with fail
    refine (lCheckDrops _ _ _ _ _ _ hx (by omega) _ HR).mono ?_
    rintro e w1 ⟨rfl, hb⟩
    go_wp2_with fail
    refine (lNewPusher _ _ _).mono ?_
    rintro e w2 ⟨rfl, hpu, hb2, hs2⟩
    have hx2 : Ri w2 w.heap.size A n ds := (hx.below hb).below' hb2 hb.size
    have hs1 := hb.size
    have hbb : Below w.heap.size w w2 := hb.trans (hb2.mono hs1)
    have HS2 := Lib.hid hs2
    clear hs2
    go_wp2_with fail
    go_loopw [30] (fun i wr => ∃ (k : Nat) (A' : Option Addr) (c' : Nat), k ≤ n ∧ i = .int .i64 k ∧ Pu wr w.heap.size w1.heap.size (b : Int) false A' k c' (runW false (b : Int) (ds.take k)).1 (runW false (b : Int) (ds.take k)).2 ∧ Below w.heap.size w2 wr ∧ Hid (w2.heap.size ≤ wr.heap.size)) (fun i _ => n - (intOf i).toNat)
    case atStart => exact ⟨0, none, 0, by omega, rfl, ⟨hs1, hpu.2.1, hpu.2.2.base hs1⟩, Below.refl _ _, Lib.hid (Nat.le_refl _)⟩
    case round =>
      obtain ⟨k, A', c', hk, rfl, hp, hbk, HSR⟩ := hrel
      by_cases hlt : k < n
      · obtain ⟨ad, x, hA, hbl, hc, hx1, _⟩ := (hx2.below hbk).at_ hlt
        obtain ⟨a, hxa, hab⟩ := hda k x hx1.out
        subst hxa
        have HST := Lib.hid (hst k _ hx1.out)
        have hf := hfar k
        have HFK := Lib.hid (hfr k hlt)
        subst hA
        go_wp2_with fail
        refine (lDrop b w1.heap.size w.heap.size a false A' k c' (runW false (b : Int) (ds.take k)).1 (runW false (b : Int) (ds.take k)).2 wr hb8 hab (by omega) hf (fun h => by cases h) hp).mono ?_
        rintro e w3 ⟨rfl, A3, c3, hp3, hb3⟩
        rw [show ((runW false (b : Int) (ds.take k)).1, (runW false (b : Int) (ds.take k)).2) = runW false (b : Int) (ds.take k) from rfl, ← HST.out] at hp3
        go_wp2
        go_roundw
        case rel => exact ⟨k + 1, A3, c3, by omega, by go_num, hp3, hbk.trans hb3, Lib.hid (Nat.le_trans HSR.out hb3.size)⟩
        case measure => simp [intOf]; omega
      · have HK : Hid (k = n) := Lib.hid (by omega)
        go_wp2
        go_ret2
        rw [HK.out, HT.out] at hp
        exact ⟨w1.heap.size, A', c', rfl, hp, hbb.trans hbk⟩
  · have hnb : ¬ b < n := by have := hw rfl; omega
    clear hw
    go_enter Tryz.func66, Tryz.ntmps66
    go_wp2_with fail
    refine (lCheckDrops _ _ _ _ _ _ hx (by omega) _ HR).mono ?_
    rintro e w1 ⟨rfl, hb⟩
    go_wp2_with fail
    refine (lNewPusher _ _ _).mono ?_
    rintro e w2 ⟨rfl, hpu, hb2, hs2⟩
    have hx2 : Ri w2 w.heap.size A n ds := (hx.below hb).below' hb2 hb.size
    have hs1 := hb.size
    have hbb : Below w.heap.size w w2 := hb.trans (hb2.mono hs1)
    have HS2 := Lib.hid hs2
    clear hs2
    go_wp2_with fail
    go_loopw [30] (fun i wr => ∃ (k : Nat) (A' : Option Addr) (c' : Nat), k ≤ n ∧ i = .int .i64 k ∧ Pu wr w.heap.size w1.heap.size (b : Int) true A' k c' (runW true (b : Int) (ds.take k)).1 (runW true (b : Int) (ds.take k)).2 ∧ Below w.heap.size w2 wr ∧ Hid (w2.heap.size ≤ wr.heap.size)) (fun i _ => n - (intOf i).toNat)
    case atStart => exact ⟨0, none, 0, by omega, rfl, ⟨hs1, hpu.2.1, hpu.2.2.base hs1⟩, Below.refl _ _, Lib.hid (Nat.le_refl _)⟩
    case round =>
      obtain ⟨k, A', c', hk, rfl, hp, hbk, HSR⟩ := hrel
      by_cases hlt : k < n
      · obtain ⟨ad, x, hA, hbl, hc, hx1, _⟩ := (hx2.below hbk).at_ hlt
        obtain ⟨a, hxa, hab⟩ := hda k x hx1.out
        subst hxa
        have HST := Lib.hid (hst k _ hx1.out)
        have hf := hfar k
        have HFK := Lib.hid (hfr k hlt)
        subst hA
        go_wp2_with fail
        refine (lDrop b w1.heap.size w.heap.size a true A' k c' (runW true (b : Int) (ds.take k)).1 (runW true (b : Int) (ds.take k)).2 wr hb8 hab (by omega) hf (fun _ => HFK.out trivial) hp).mono ?_
        rintro e w3 ⟨rfl, A3, c3, hp3, hb3⟩
        rw [show ((runW true (b : Int) (ds.take k)).1, (runW true (b : Int) (ds.take k)).2) = runW true (b : Int) (ds.take k) from rfl, ← HST.out] at hp3
        go_wp2
        go_roundw
        case rel => exact ⟨k + 1, A3, c3, by omega, by go_num, hp3, hbk.trans hb3, Lib.hid (Nat.le_trans HSR.out hb3.size)⟩
        case measure => simp [intOf]; omega
      · have HK : Hid (k = n) := Lib.hid (by omega)
        go_wp2
        go_ret2
        rw [HK.out, HT.out] at hp
        exact ⟨w1.heap.size, A', c', rfl, hp, hbb.trans hbk⟩
end Go.Proofs.YtibmpjhffeinoaaGreat

namespace Go.Proofs.YtibmpjhffeinoaaGreat
open Go.RowKit Go.Shelf

theorem runW_lie (b : Int) (ds : List Int) : (runW false b ds).1 = lieOf b ds := by rw [runW_flat]; rfl
theorem runW_slid (b : Int) (ds : List Int) : (runW false b ds).2 = farOf b ds := by rw [runW_flat]; rfl

theorem lLie_err (p : Int) (A : Option Addr) (n c : Nat) (ds : List Int) (w : World) (hx : Ri w w.heap.size A n ds) (hn : n ≤ 1099511627776) (r : Int) (HR : Hid (checkDrops p ds = r)) (h0 : (r != 0) = true) :
    Calls Tryz.prog 26 #[.int .i64 p, .slice A n c] w fun e w' => e = .returned (.tuple #[.slice none 0 0, .int .i64 0, .int .i64 r]) ∧ Below w.heap.size w w' := by
  go_enter Tryz.func26, Tryz.ntmps26
  go_wp2_with (go_at_call 66; refine (lOpen_err _ _ _ _ _ _ _ hx hn _ HR h0).mono ?_; rintro e w1 ⟨rfl, hb⟩)
  go_ret3
  exact ⟨rfl, hb⟩
theorem lLie (b : Nat) (A : Option Addr) (n c : Nat) (ds : List Int) (w : World) (hx : Ri w w.heap.size A n ds) (hv : Valid (b : Int) ds) :
    Calls Tryz.prog 26 #[.int .i64 (b : Int), .slice A n c] w fun e w' => ∃ (A' : Option Addr) (c' : Nat), e = .returned (.tuple #[.slice A' n c', .int .i64 (farOf (b : Int) ds), .int .i64 0]) ∧
      Oi w' w.heap.size A' n c' (lieOf (b : Int) ds) ∧ Below w.heap.size w w' := by
  go_enter Tryz.func26, Tryz.ntmps26
  go_wp2_with (go_at_call 66; refine (lOpen _ _ _ _ _ _ _ hx hv (fun h => by cases h)).mono ?_; rintro e w1 ⟨g, A1, c1, rfl, hp, hb⟩)
  rw [runW_lie, runW_slid] at hp
  have k2 : w1.cell? ⟨g, 10, none⟩ = some (.slice A1 n c1) := pu_cell hp.2.1 10
  have k3 : w1.cell? ⟨g, 11, none⟩ = some (.int .i64 (farOf (b : Int) ds)) := pu_cell hp.2.1 11
  go_quiet (fail)
  go_wp2
  go_ret3
  exact ⟨A1, c1, rfl, hp.2.2.drewN _, below_drewN hb _⟩

/-- 'append' of one number to an own list that is cut to its length: a new row. -/
theorem push_full {w : World} {ops : Array Oper} {rest : List Oper} {o : Oper} {a : Act} {Q : Exit → Act → World → Prop} (hgd : o.guard = none) (s x : Operand)
    (ho : o.op = .call { callee := .builtin .append, args := #[s, x], argTypes := #[35, 35] })
    (base : Nat) (A : Option Addr) (n c : Nat) (xs : List Int) (hs : a.eval s = .slice A n n) (hown : Oi w base A n c xs)
    (ad : Addr) (c' : Nat) (z : Int) (hx : a.eval x = .slice (some ad) 1 c') (hz : w.cell? ad = some (.int .i64 z)) (hlen : n < 1099511627776)
    (h : ∀ g cap w', Oi w' w.heap.size (some ⟨g, 0, none⟩) (n + 1) cap (xs ++ [z]) → w.grownBy w' none → wpList Tryz.prog ops Q rest (a.put o.dst (.slice (some ⟨g, 0, none⟩) (n + 1) cap)) w') : wpList Tryz.prog ops Q (o :: rest) a w := by
  obtain ⟨i0, hi, hz0, hz1, hz2⟩ := info_parts info_int
  have hri := hown.ri
  refine wpList_append_grows w hgd s x _ ho _ i0 _ 1 8 under_ints hi hz0 hz1 hz2 rfl (by decide) A n n (ints xs) hs ?_ (by rw [ints_length, hown.len]; omega) ?_ ad 1 c' [.int .i64 z] hx rfl ?_ (by simp [Value.oneCell']) (by omega) (by unfold maxLen; omega) (by omega) ?_
  · intro hA
    subst hA
    rcases hown.2 with ⟨_, h'⟩ | ⟨g', cap', cur, h', _⟩
    · have h0 : n = 0 := by simp_all
      exact ⟨h0, h0⟩
    · cases h'
  · intro b hb j u hj
    subst hb
    have hjn : j < n := by
      have := (List.getElem?_eq_some_iff.1 hj).1
      rw [ints_length, hown.len] at this
      exact this
    obtain ⟨ad', y, hA, _, hc, hy, _⟩ := hri.at_ hjn
    cases hA
    rw [ints, List.getElem?_map, hy.out] at hj
    cases hj
    exact hc
  · intro j u hj
    match j, hj with
    | 0, hj => simp at hj; subst hj; exact hz
  · intro v' w' hown' hgrow
    obtain ⟨g, cap, hv, _, _⟩ := hown'.form (by omega)
    subst hv
    refine h g cap w' ?_ hgrow
    unfold Oi
    rw [ints_append]
    exact hown'
end Go.Proofs.YtibmpjhffeinoaaGreat

namespace Go.Proofs.YtibmpjhffeinoaaGreat
open Go.RowKit Go.Shelf

theorem Oi.cap {w : World} {base n c : Nat} {A : Option Addr} {xs : List Int} (h : Oi w base A n c xs) : n ≤ c := by
  rcases h.2 with ⟨h', h2⟩ | ⟨g', cap', cur, h', _, _, h4, _⟩
  · cases h'
    simp_all
  · cases h'
    exact h4
theorem lFull_err (p : Int) (A : Option Addr) (n c : Nat) (ds : List Int) (w : World) (hx : Ri w w.heap.size A n ds) (hn : n ≤ 1099511627776) (r : Int) (HR : Hid (checkDrops p ds = r)) (h0 : (r != 0) = true) :
    Calls Tryz.prog 23 #[.int .i64 p, .slice A n c] w fun e w' => e = .returned (.tuple #[.slice none 0 0, .int .i64 0, .int .i64 r]) ∧ Below w.heap.size w w' := by
  go_enter Tryz.func23, Tryz.ntmps23
  go_wp2_with (go_at_call 66; refine (lOpen_err _ _ _ _ _ _ _ hx hn _ HR h0).mono ?_; rintro e w1 ⟨rfl, hb⟩)
  go_ret3
  exact ⟨rfl, hb⟩
theorem lFull (b : Nat) (A : Option Addr) (n c : Nat) (ds : List Int) (w : World) (hx : Ri w w.heap.size A n ds) (hv : Valid (b : Int) ds) :
    Calls Tryz.prog 23 #[.int .i64 (b : Int), .slice A n c] w fun e w' => ∃ (A' : Option Addr) (n' c' : Nat), e = .returned (.tuple #[.slice A' n' c', .int .i64 (fellOf (b : Int) ds), .int .i64 0]) ∧
      Oi w' w.heap.size A' n' c' (fullOf (b : Int) ds) ∧ Below w.heap.size w w' := by
  have HL := Lib.hid hx.len
  have h2 := hv.hi
  have hb8 : b ≤ 8 := by omega
  have h3 : n ≤ 12 := by rw [← HL.out]; exact hv.many
  go_enter Tryz.func23, Tryz.ntmps23
  go_wp2_with (go_at_call 66; refine (lOpen _ _ _ _ _ _ _ hx hv (fun h => by cases h)).mono ?_; rintro e w1 ⟨g, A1, c1, rfl, hp, hb⟩)
  rw [runW_lie, runW_slid] at hp
  obtain ⟨L, HLE⟩ : ∃ L, Hid (L = lieOf (b : Int) ds) := ⟨_, Lib.hid rfl⟩
  rw [← HLE.out] at hp
  have hpu := Lib.hid hp.2.1
  have hgl : g < w1.heap.size := (Array.getElem?_eq_some_iff.1 hp.2.1).1
  have hs1 := hb.size
  clear hp
  go_loopw [9, 21] (fun o i wr => ∃ (k m c2 : Nat) (A2 : Option Addr), k ≤ b ∧ i = .int .i64 k ∧ o = .slice A2 m c2 ∧ m ≤ k ∧
      Oi wr w1.heap.size A2 m c2 (fullIn L k) ∧ Below w1.heap.size w1 wr) (fun _ i _ => b - (intOf i).toNat)
  case atStart => exact ⟨0, 0, 0, none, by omega, rfl, rfl, Nat.le_refl _, Oi.nil_ _ _, Below.refl _ _⟩
  case round =>
    obtain ⟨k, m, c2, A2, hk, rfl, rfl, hmk, ho, hbk⟩ := hrel
    have hsz := hbk.size
    have hmc := ho.cap
    by_cases hlt : k < b
    · have hc1 := pu_taken ((hbk.block g hgl).trans hpu.out) (k := k) (by omega)
      have hk8 : (k : Int) < 8 := by omega
      by_cases hm : (k : Int) ∈ L
      · have HX := Lib.hid (fullIn_yes hm)
        rw [tkI_yes hm] at hc1
        clear hm
        go_wp2_with (at_builtin; refine push_full rfl (.tmp 36) (.tmp 38) rfl w1.heap.size A2 m c2 (fullIn L k) rfl (ho.alloc _) ⟨wr.heap.size, 0, none⟩ 1 _ rfl (cell_new1 _ _ _) (by omega) ?_; intro g3 cap w3 hown1 hgrow1)
        go_roundw
        case rel =>
          have hown2 := hown1.base (base' := w1.heap.size) (by simp only [World.size_alloc]; omega)
          exact ⟨k + 1, m + 1, _, _, by omega, by go_num, rfl, by omega, by rw [HX.out]; exact hown2, (hbk.alloc hsz _).grown hgrow1 (by simp only [World.size_alloc]; omega) (fun _ h => by cases h)⟩
        case measure => simp [intOf]; omega
      · have HX := Lib.hid (fullIn_no hm)
        rw [tkI_no hm] at hc1
        clear hm
        go_wp2
        go_roundw
        case rel => exact ⟨k + 1, m, _, _, by omega, by go_num, rfl, by omega, by rw [HX.out]; exact ho, hbk⟩
        case measure => simp [intOf]; omega
    · have HK : Hid (k = (b : Int).toNat) := Lib.hid (by omega)
      go_wp2
      go_ret3
      have e1 : fullIn L k = fullOf (b : Int) ds := by rw [HK.out, HLE.out]; rfl
      rw [e1] at ho
      have e2 : (n : Int) - m = fellOf (b : Int) ds := by unfold fellOf; rw [HL.out, ho.len]
      exact ⟨A2, m, c2, by rw [← e2]; rfl, ho.base hs1, hb.trans (hbk.mono hs1)⟩
end Go.Proofs.YtibmpjhffeinoaaGreat

namespace Go.Proofs.YtibmpjhffeinoaaGreat
open Go.RowKit Go.Shelf

theorem lOver0 (p q : Int) (A : Option Addr) (n c B : Nat) (ds : List Int) (w : World) (hx : Ri w B A n ds) (hn : n ≤ 1099511627776) (hp : -1099511627776 ≤ p ∧ p ≤ 1099511627776) (hq : -1099511627776 ≤ q ∧ q ≤ 1099511627776) :
    Calls Tryz.prog 284 #[.int .i64 p, .slice A n c, .int .i64 q] w fun e w' => e = .returned (.int .i64 (overOf p ds q)) ∧ w = w' := by
  have HL := Lib.hid hx.len
  obtain ⟨hp1, hp2⟩ := hp
  obtain ⟨hq1, hq2⟩ := hq
  go_enter Tryz.func284, Tryz.ntmps284
  go_wp2
  go_loop [7, 9, 15] (fun t _ i => ∃ k : Nat, k ≤ n ∧ i = .int .i64 k ∧ t = .int .i64 (overOf p (ds.take k) q)) (fun _ _ i => n - (intOf i).toNat)
  case atStart => exact ⟨0, Nat.zero_le _, rfl, by simp [overOf, cntGe]⟩
  case round =>
    obtain ⟨k, hk, rfl, rfl⟩ := hrel
    by_cases hlt : k < n
    · obtain ⟨ad, d, rfl, _, hc, hxk, _⟩ := hx.at_ hlt
      obtain ⟨hb1, hb2⟩ := cntGe_bd q (ds.take k)
      have hl : (ds.take k).length ≤ 1099511627776 := by rw [List.length_take]; omega
      obtain ⟨s, HSE⟩ : ∃ s, Hid (s = cntGe q (ds.take k)) := ⟨_, Lib.hid rfl⟩
      have HO : Hid (overOf p (ds.take k) q = q - p + s) := Lib.hid (by rw [HSE.out]; rfl)
      rw [← HSE.out] at hb1 hb2
      rw [HO.out]
      by_cases hge : q ≤ d
      · have HX : Hid (overOf p (ds.take (k + 1)) q = q - p + s + 1) := Lib.hid (by rw [take_snoc hxk.out, overOf, cntGe_yes hge, HSE.out]; omega)
        go_wp2
        go_round
        case rel => exact ⟨k + 1, by omega, by go_num, by rw [HX.out]⟩
        case measure => simp [intOf]; omega
      · have HX : Hid (overOf p (ds.take (k + 1)) q = q - p + s) := Lib.hid (by rw [take_snoc hxk.out, overOf, cntGe_no hge, HSE.out])
        go_wp2
        go_round
        case rel => exact ⟨k + 1, by omega, by go_num, by rw [HX.out]⟩
        case measure => simp [intOf]; omega
    · have hk : k = n := by omega
      subst hk
      have ht : ds.take k = ds := List.take_of_length_le (by rw [HL.out]; omega)
      rw [ht]
      clear ht
      go_wp2
      go_ret
      exact ⟨rfl, rfl⟩

theorem lCheckOver_err (p q : Int) (A : Option Addr) (n c : Nat) (ds : List Int) (w : World) (hx : Ri w w.heap.size A n ds) (hn : n ≤ 1099511627776) (r : Int) (HR : Hid (checkDrops p ds = r)) (h0 : (r != 0) = true) :
    Calls Tryz.prog 159 #[.int .i64 p, .slice A n c, .int .i64 q] w fun e w' => e = .returned (.tuple #[.int .i64 0, .int .i64 r]) ∧ Below w.heap.size w w' := by
  go_enter Tryz.func159, Tryz.ntmps159
  go_wp2_with (go_at_call 166; refine (lCheckDrops _ _ _ _ _ _ hx hn _ HR).mono ?_; rintro e w1 ⟨rfl, hb⟩)
  go_ret2
  exact ⟨rfl, hb⟩
theorem lCheckOver_arg (p q : Int) (A : Option Addr) (n c : Nat) (ds : List Int) (w : World) (hx : Ri w w.heap.size A n ds) (hv : Valid p ds) (hq : q < 0 ∨ p ≤ q) :
    Calls Tryz.prog 159 #[.int .i64 p, .slice A n c, .int .i64 q] w fun e w' => e = .returned (.tuple #[.int .i64 0, .int .i64 2]) ∧ Below w.heap.size w w' := by
  have HR : Hid (checkDrops p ds = 0) := Lib.hid (checkDrops_valid.2 hv)
  have h3 : n ≤ 12 := by rw [← hx.len]; exact hv.many
  have h1 := hv.lo
  have h8 := hv.hi
  have HB : Hid ([q].any (outB 0 (p - 1)) = true) := Lib.hid (by simp [outB]; omega)
  go_enter Tryz.func159, Tryz.ntmps159
  go_wp2_with fail
  refine (lCheckDrops _ _ _ _ _ _ hx (by omega) _ HR).mono ?_
  rintro e w1 ⟨rfl, hb⟩
  have hlit := (Oi.lit1 w1 q).ri
  go_wp2_with (go_at_call 70; refine (lWithin _ _ _ _ _ _ _ hlit (by omega) _ HB).mono ?_; rintro e w2 ⟨rfl, hb2, hs⟩; clear hs)
  go_ret2
  exact ⟨rfl, hb.trans ((((Below.refl _ w1).alloc (Nat.le_refl _) _).trans (hb2.mono (by simp))).mono hb.size)⟩
theorem lCheckOver_ok (p q : Int) (A : Option Addr) (n c : Nat) (ds : List Int) (w : World) (hx : Ri w w.heap.size A n ds) (hv : Valid p ds) (hq1 : 0 ≤ q) (hq2 : q < p) :
    Calls Tryz.prog 159 #[.int .i64 p, .slice A n c, .int .i64 q] w fun e w' => e = .returned (.tuple #[.int .i64 (overOf p ds q), .int .i64 0]) ∧ Below w.heap.size w w' := by
  have HR : Hid (checkDrops p ds = 0) := Lib.hid (checkDrops_valid.2 hv)
  have h3 : n ≤ 12 := by rw [← hx.len]; exact hv.many
  have h1 := hv.lo
  have h8 := hv.hi
  have HB : Hid ([q].any (outB 0 (p - 1)) = false) := Lib.hid (by simp [outB]; omega)
  go_enter Tryz.func159, Tryz.ntmps159
  go_wp2_with fail
  refine (lCheckDrops _ _ _ _ _ _ hx (by omega) _ HR).mono ?_
  rintro e w1 ⟨rfl, hb⟩
  have hlit := (Oi.lit1 w1 q).ri
  go_wp2_with fail
  refine (lWithin _ _ _ _ _ _ _ hlit (by omega) _ HB).mono ?_
  rintro e w2 ⟨rfl, hb2, hs⟩
  clear hs
  have hbb : Below w.heap.size w w2 := hb.trans ((((Below.refl _ w1).alloc (Nat.le_refl _) _).trans (hb2.mono (by simp))).mono hb.size)
  have hx2 := hx.below hbb
  go_wp2_with (go_at_call 284; refine (lOver0 _ _ _ _ _ _ _ _ hx2 (by omega) (by omega) (by omega)).mono ?_; rintro e w' ⟨rfl, rfl⟩)
  go_ret2
  exact ⟨rfl, hbb⟩

theorem lIndex (A : Option Addr) (n c B : Nat) (xs : List Int) (z : Int) (w : World) (hx : Ri w B A n xs) (hn : n ≤ 1099511627776) (r : Bool) (HR : Hid (decide (z ∈ xs) = r)) :
    Calls Tryz.prog 151 #[.slice A n c, .int .i64 z] w fun e w' => (∃ k : Int, e = .returned (.int .i64 k) ∧ decide (0 ≤ k) = r) ∧ w = w' := by
  have HL := Lib.hid hx.len
  go_enter Tryz.func151, Tryz.ntmps151
  go_wp2
  go_loop [5, 8] (fun _ i => ∃ k : Nat, k ≤ n ∧ i = .int .i64 k ∧ Hid (z ∉ xs.take k)) (fun _ i => n - (intOf i).toNat)
  case atStart => exact ⟨0, Nat.zero_le _, rfl, Lib.hid (by simp)⟩
  case round =>
    obtain ⟨k, hk, rfl, hno⟩ := hrel
    by_cases hlt : k < n
    · obtain ⟨ad, x, rfl, _, hc, hxk, _⟩ := hx.at_ hlt
      by_cases hz : z = x
      · have HX : Hid (r = true) := Lib.hid (by rw [← HR.out, hz]; exact decide_eq_true (List.mem_of_getElem? hxk.out))
        subst hz
        go_wp2
        go_ret
        exact ⟨⟨k, rfl, by rw [HX.out]; simp⟩, rfl⟩
      · have HX : Hid (z ∉ xs.take (k + 1)) := Lib.hid (by rw [List.take_add_one, hxk.out]; simp; exact ⟨hno.out, hz⟩)
        go_wp2
        go_round
        case rel => exact ⟨k + 1, by omega, by go_num, HX⟩
        case measure => simp [intOf]; omega
    · have HX : Hid (r = false) := Lib.hid (by rw [← HR.out]; have := hno.out; rw [List.take_of_length_le (by rw [HL.out]; omega)] at this; exact decide_eq_false this)
      go_wp2
      go_ret
      exact ⟨⟨-1, rfl, by rw [HX.out]; simp⟩, rfl⟩
theorem lContains (A : Option Addr) (n c B : Nat) (xs : List Int) (z : Int) (w : World) (hx : Ri w B A n xs) (hn : n ≤ 1099511627776) (r : Bool) (HR : Hid (decide (z ∈ xs) = r)) :
    Calls Tryz.prog 67 #[.slice A n c, .int .i64 z] w fun e w' => e = .returned (.bool r) ∧ w = w' := by
  go_enter Tryz.func67, Tryz.ntmps67
  go_wp2_with (go_at_call 151; refine (lIndex _ _ _ _ _ _ _ hx hn _ HR).mono ?_; rintro e w' ⟨⟨k, rfl, hk⟩, rfl⟩; have HK := Lib.hid hk; clear hk)
  go_ret
  exact ⟨ret_b HK.out, rfl⟩
end Go.Proofs.YtibmpjhffeinoaaGreat
