/-
  The plain functions of the claim: what the program and the reference compute, on integers and lists. No program in sight.
-/
import Derived.Below
namespace Go.Proofs.Ytkeiajncmhkdmaa

/-- The first place from 'at' on that no copper of L lies at, or 'places'. -/
def slideTo (places : Int) (L : List Int) : Nat → Int → Int
  | 0, at_ => at_
  | f + 1, at_ => if at_ < places ∧ at_ ∈ L then slideTo places L f (at_ + 1) else at_
def slid1 (places : Int) (L : List Int) (d : Int) : Int := slideTo places L (places - d).toNat d
def lie1 (places : Int) (L : List Int) (d : Int) : Int := if slid1 places L d = places then -1 else slid1 places L d
/-- One copper more: where all lie, how far all slid. -/
def step1 (places : Int) (s : List Int × Int) (d : Int) : List Int × Int := (s.1 ++ [lie1 places s.1 d], s.2 + (slid1 places s.1 d - d))
def runOf (places : Int) (ds : List Int) : List Int × Int := ds.foldl (step1 places) ([], 0)
def lieOf (places : Int) (ds : List Int) : List Int := (runOf places ds).1
def farOf (places : Int) (ds : List Int) : Int := (runOf places ds).2
theorem runOf_snoc (places : Int) (ds : List Int) (d : Int) : runOf places (ds ++ [d]) = step1 places (runOf places ds) d := by simp [runOf]
theorem lieOf_snoc (places : Int) (ds : List Int) (d : Int) : lieOf places (ds ++ [d]) = lieOf places ds ++ [lie1 places (lieOf places ds) d] := by simp [lieOf, runOf_snoc, step1]
theorem farOf_snoc (places : Int) (ds : List Int) (d : Int) : farOf places (ds ++ [d]) = farOf places ds + (slid1 places (lieOf places ds) d - d) := by simp [farOf, lieOf, runOf_snoc, step1]
theorem snoc_induction {p : List Int → Prop} (h0 : p []) (h1 : ∀ l d, p l → p (l ++ [d])) (l : List Int) : p l := by
  have h : ∀ (n : Nat) (l : List Int), l.length = n → p l := by
    intro n
    induction n with
    | zero => intro l hl; rw [List.eq_nil_of_length_eq_zero hl]; exact h0
    | succ n ih =>
      intro l hl
      have hne : l ≠ [] := by intro e; rw [e] at hl; cases hl
      rw [← List.dropLast_concat_getLast hne]
      exact h1 _ _ (ih _ (by rw [List.length_dropLast, hl]; rfl))
  exact h _ l rfl
theorem lieOf_length (places : Int) (ds : List Int) : (lieOf places ds).length = ds.length := by
  induction ds using snoc_induction with
  | h0 => rfl
  | h1 l d ih => simp [lieOf_snoc, ih]
theorem take_snoc {α : Type} {l : List α} {k : Nat} {x : α} (h : l[k]? = some x) : l.take (k + 1) = l.take k ++ [x] := by rw [List.take_add_one, h]; rfl

theorem slideTo_stop {places : Int} {L : List Int} {at_ : Int} (f : Nat) (h : ¬ (at_ < places ∧ at_ ∈ L)) : slideTo places L f at_ = at_ := by
  cases f with
  | zero => rfl
  | succ f => simp only [slideTo]; rw [if_neg h]
theorem slideTo_go {places : Int} {L : List Int} {at_ : Int} (f : Nat) (h : at_ < places ∧ at_ ∈ L) : slideTo places L (f + 1) at_ = slideTo places L f (at_ + 1) := by
  simp only [slideTo]; rw [if_pos h]
theorem slid1_stop {places : Int} {L : List Int} {at_ : Int} (h : ¬ (at_ < places ∧ at_ ∈ L)) : slid1 places L at_ = at_ := slideTo_stop _ h
theorem slid1_go {places : Int} {L : List Int} {at_ : Int} (h : at_ < places ∧ at_ ∈ L) : slid1 places L at_ = slid1 places L (at_ + 1) := by
  unfold slid1
  obtain ⟨f, hf⟩ : ∃ f, (places - at_).toNat = f + 1 := ⟨(places - at_).toNat - 1, by omega⟩
  have hf' : (places - (at_ + 1)).toNat = f := by omega
  rw [hf, hf', slideTo_go f h]
theorem slid1_le {places : Int} {L : List Int} : ∀ (f : Nat) (at_ : Int), (places - at_).toNat = f → at_ ≤ places → at_ ≤ slid1 places L at_ ∧ slid1 places L at_ ≤ places := by
  intro f
  induction f with
  | zero =>
    intro at_ h hle
    rw [slid1_stop (by omega)]
    omega
  | succ f ih =>
    intro at_ h hle
    by_cases hc : at_ < places ∧ at_ ∈ L
    · rw [slid1_go hc]
      have := ih (at_ + 1) (by omega) (by omega)
      omega
    · rw [slid1_stop hc]
      omega
theorem slid1_fix {places : Int} {L : List Int} : ∀ {a k : Int}, slid1 places L a = k → a ≤ k → k < places → slid1 places L k = k := by
  intro a k h hak hkp
  have : ∀ (d : Nat) (a : Int), (k - a).toNat = d → a ≤ k → slid1 places L a = k → slid1 places L k = k := by
    intro d
    induction d with
    | zero =>
      intro a h1 h2 h3
      obtain rfl : a = k := by omega
      exact h3
    | succ d ih =>
      intro a h1 h2 h3
      by_cases hm : a < places ∧ a ∈ L
      · rw [slid1_go hm] at h3
        exact ih (a + 1) (by omega) (by omega) h3
      · rw [slid1_stop hm] at h3
        omega
  exact this _ a rfl hak h
theorem slid1_bd {places : Int} {L : List Int} {at_ : Int} (h : at_ ≤ places) : at_ ≤ slid1 places L at_ ∧ slid1 places L at_ ≤ places := slid1_le _ _ rfl h

/-- Drops that are valid. -/
structure Valid (places : Int) (ds : List Int) : Prop where
  lo : 1 ≤ places
  hi : places ≤ 8
  many : ds.length ≤ 12
  all : ∀ d ∈ ds, 0 ≤ d ∧ d < places
def okDrop (p d : Int) : Bool := decide (0 ≤ d) && decide (d < p)
def checkDrops (p : Int) (ds : List Int) : Int := if p < 1 ∨ 8 < p ∨ 12 < ds.length then 6 else if ds.all (okDrop p) then 0 else 3
def checkPlaces (p : Int) : Int := if p < 1 ∨ 8 < p then 6 else 0
theorem okDrop_iff {p d : Int} : okDrop p d = true ↔ 0 ≤ d ∧ d < p := by simp [okDrop]
theorem checkDrops_many {p : Int} {ds : List Int} (h : p < 1 ∨ 8 < p ∨ 12 < ds.length) : checkDrops p ds = 6 := by rw [checkDrops, if_pos h]
theorem checkDrops_bad {p d : Int} {ds : List Int} (h : ¬ (p < 1 ∨ 8 < p ∨ 12 < ds.length)) (hd : d ∈ ds) (hb : ¬ (0 ≤ d ∧ d < p)) : checkDrops p ds = 3 := by
  rw [checkDrops, if_neg h, if_neg]
  intro ha
  exact hb (okDrop_iff.1 (List.all_eq_true.1 ha d hd))
theorem checkDrops_ok {p : Int} {ds : List Int} (h : ¬ (p < 1 ∨ 8 < p ∨ 12 < ds.length)) (ha : ds.all (okDrop p) = true) : checkDrops p ds = 0 := by
  rw [checkDrops, if_neg h, if_pos ha]
theorem checkDrops_valid {p : Int} {ds : List Int} : checkDrops p ds = 0 ↔ Valid p ds := by
  constructor
  · intro h
    unfold checkDrops at h
    split at h
    · cases h
    · rename_i hn
      split at h
      · rename_i ha
        exact ⟨by omega, by omega, by omega, fun d hd => okDrop_iff.1 (List.all_eq_true.1 ha d hd)⟩
      · cases h
  · intro h
    have h1 := h.lo
    have h2 := h.hi
    have h3 := h.many
    exact checkDrops_ok (by omega) (List.all_eq_true.2 fun d hd => okDrop_iff.2 (h.all d hd))
theorem far_bd {places : Int} (h8 : places ≤ 8) (ds : List Int) : (∀ d ∈ ds, 0 ≤ d ∧ d < places) → 0 ≤ farOf places ds ∧ farOf places ds ≤ 8 * ds.length := by
  induction ds using snoc_induction with
  | h0 => intro _; simp [farOf, runOf]
  | h1 l d ih =>
    intro h
    have h1 := ih (fun x hx => h x (by simp [hx]))
    have h2 := h d (by simp)
    have h3 := slid1_bd (places := places) (L := lieOf places l) (at_ := d) (by omega)
    rw [farOf_snoc, List.length_append]
    simp only [List.length_singleton]
    omega
/-- 0, 1, .., n - 1. -/
def upTo (n : Nat) : List Int := (List.range n).map fun (i : Nat) => (i : Int)
theorem upTo_succ (n : Nat) : upTo (n + 1) = upTo n ++ [(n : Int)] := by simp [upTo, List.range_succ]
theorem upTo_length (n : Nat) : (upTo n).length = n := by simp [upTo]
theorem mem_upTo {n : Nat} {x : Int} : x ∈ upTo n ↔ 0 ≤ x ∧ x < n := by
  simp only [upTo, List.mem_map, List.mem_range]
  constructor
  · rintro ⟨k, hk, rfl⟩; omega
  · intro h; exact ⟨x.toNat, by omega, by omega⟩
def inL (L : List Int) (i : Int) : Bool := decide (i ∈ L)
/-- The full places. -/
def fullIn (L : List Int) (n : Nat) : List Int := (upTo n).filter (inL L)
def fullOf (p : Int) (ds : List Int) : List Int := fullIn (lieOf p ds) p.toNat
def fellOf (p : Int) (ds : List Int) : Int := (ds.length : Int) - ((fullOf p ds).length : Int)
theorem fullIn_le (L : List Int) (n : Nat) : (fullIn L n).length ≤ n := by
  have h := List.length_filter_le (inL L) (upTo n)
  rw [upTo_length] at h
  exact h
theorem fullIn_yes {L : List Int} {n : Nat} (h : (n : Int) ∈ L) : fullIn L (n + 1) = fullIn L n ++ [(n : Int)] := by simp [fullIn, upTo_succ, inL, h]
theorem fullIn_no {L : List Int} {n : Nat} (h : (n : Int) ∉ L) : fullIn L (n + 1) = fullIn L n := by simp [fullIn, upTo_succ, inL, h]
theorem full_le {p : Int} (h : p ≤ 8) (ds : List Int) : (fullOf p ds).length ≤ 8 := by
  have := fullIn_le (lieOf p ds) p.toNat
  unfold fullOf
  omega
/-- How many coppers a place proves to fall. -/
def geB (q d : Int) : Bool := decide (q ≤ d)
def cntGe (q : Int) (ds : List Int) : Int := ((ds.countP (geB q) : Nat) : Int)
def overOf (p : Int) (ds : List Int) (q : Int) : Int := q - p + cntGe q ds
theorem cntGe_bd (q : Int) (ds : List Int) : 0 ≤ cntGe q ds ∧ cntGe q ds ≤ ds.length := by
  have := List.countP_le_length (p := geB q) (l := ds)
  unfold cntGe
  omega
theorem cntGe_yes {q d : Int} {ds : List Int} (h : q ≤ d) : cntGe q (ds ++ [d]) = cntGe q ds + 1 := by
  have : geB q d = true := by simp [geB, h]
  simp [cntGe, List.countP_append, this]
theorem cntGe_no {q d : Int} {ds : List Int} (h : ¬ q ≤ d) : cntGe q (ds ++ [d]) = cntGe q ds := by
  have : geB q d = false := by simp [geB, h]
  simp [cntGe, List.countP_append, this]
/-- The first place, from k on, that proves m coppers to fall. -/
def firstOver (p : Int) (ds : List Int) (m : Int) : Nat → Nat → Int × Int
  | 0, _ => (0, 20)
  | f + 1, k => if (k : Int) < p then (if overOf p ds k = m then ((k : Int), 0) else firstOver p ds m f (k + 1)) else (0, 20)
def overR (p : Int) (ds : List Int) : Int × Int := if 0 < fellOf p ds then firstOver p ds (fellOf p ds) 9 0 else (0, 20)
/-- The places on which one more may be dropped. -/
def mayB (p : Int) (ds : List Int) (i : Int) : Bool := decide (fellOf p (ds ++ [i]) = 0)
def mayIn (p : Int) (ds : List Int) (n : Nat) : List Int := (upTo n).filter (mayB p ds)
theorem mayIn_yes {p : Int} {ds : List Int} {n : Nat} (h : fellOf p (ds ++ [(n : Int)]) = 0) : mayIn p ds (n + 1) = mayIn p ds n ++ [(n : Int)] := by simp [mayIn, upTo_succ, mayB, h]
theorem mayIn_no {p : Int} {ds : List Int} {n : Nat} (h : ¬ fellOf p (ds ++ [(n : Int)]) = 0) : mayIn p ds (n + 1) = mayIn p ds n := by simp [mayIn, upTo_succ, mayB, h]
theorem fell_snoc_valid {p d : Int} {ds : List Int} (hv : Valid p ds) (h0 : fellOf p ds = 0) (hd : 0 ≤ d ∧ d < p) : Valid p (ds ++ [d]) := by
  have h8 := full_le hv.hi ds
  refine ⟨hv.lo, hv.hi, ?_, fun x hx => ?_⟩
  · unfold fellOf at h0
    rw [List.length_append, List.length_singleton]
    omega
  · rcases List.mem_append.1 hx with h | h
    · exact hv.all x h
    · obtain rfl := List.mem_singleton.1 h
      exact hd
/-- How many places of l follow one another up to q, downwards. -/
def runDown (l : List Int) : Nat → Int → Int
  | 0, _ => 0
  | f + 1, q => if q ∈ l then 1 + runDown l f (q - 1) else 0
def runR (l : List Int) (q : Int) : Int := 1 + runDown l q.toNat (q - 1)
theorem runDown_bd (l : List Int) : ∀ (f : Nat) (q : Int), 0 ≤ runDown l f q ∧ runDown l f q ≤ f := by
  intro f
  induction f with
  | zero => intro q; simp [runDown]
  | succ f ih =>
    intro q
    have := ih (q - 1)
    unfold runDown
    split <;> omega
theorem runR_bd (l : List Int) {q : Int} (h : 0 ≤ q) : 1 ≤ runR l q ∧ runR l q ≤ q + 1 := by
  have := runDown_bd l q.toNat (q - 1)
  unfold runR
  omega
/-- Bit i of a number. -/
def bitB (s : Nat) (i : Nat) : Bool := decide (s / 2 ^ i % 2 = 1)
def listedIn (s : Nat) (n : Nat) : List Int := ((List.range n).filter (bitB s)).map fun (i : Nat) => (i : Int)
def listed (s : Nat) : List Int := listedIn s 8
theorem listedIn_yes {s n : Nat} (h : bitB s n = true) : listedIn s (n + 1) = listedIn s n ++ [(n : Int)] := by simp [listedIn, List.range_succ, List.filter_append, h]
theorem listedIn_no {s n : Nat} (h : bitB s n = false) : listedIn s (n + 1) = listedIn s n := by simp [listedIn, List.range_succ, List.filter_append, h]
theorem listedIn_le (s n : Nat) : (listedIn s n).length ≤ n := by
  have := List.length_filter_le (bitB s) (List.range n)
  simp only [listedIn, List.length_map, List.length_range] at *
  omega
theorem mem_listed {s : Nat} {q : Int} (h : q ∈ listed s) : 0 ≤ q ∧ q < 8 ∧ bitB s q.toNat = true := by
  simp only [listed, listedIn, List.mem_map, List.mem_filter, List.mem_range] at h
  obtain ⟨k, ⟨h1, h2⟩, rfl⟩ := h
  exact ⟨by omega, by omega, by simpa using h2⟩
end Go.Proofs.Ytkeiajncmhkdmaa
