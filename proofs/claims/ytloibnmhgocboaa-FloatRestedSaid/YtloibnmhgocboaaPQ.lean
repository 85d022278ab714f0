/-
  The plain part of 'payable' and 'heights': which amounts are yielded, what is kept of them, what is made of them.
  The plain part of 'fewest': what is kept, and how much room is left for it.
  The plain part of sums: step by step, and how great they are.
  The plain part of greedy taking, from the last kind on.
  The plain part of ways: the row of one kind more, element by element.
  The plain part of 'change': kind by kind.
-/
import Derived.Test.YtloibnmhgocboaaPS
namespace Go.Proofs.Ytloibnmhgocboaa

abbrev Py := {a : Nat // a ≤ 300} × Int
def py (cs : List Int) : Nat → List Py
  | 0 => []
  | k + 1 => if h : k ≤ 300 ∧ 0 ≤ few cs k then py cs k ++ [(⟨k, h.1⟩, few cs k)] else py cs k
theorem py_yes {cs : List Int} {k : Nat} (h : k ≤ 300) (h0 : 0 ≤ few cs k) : py cs (k + 1) = py cs k ++ [(⟨k, h⟩, few cs k)] := by simp only [py]; rw [dif_pos ⟨h, h0⟩]
theorem py_no {cs : List Int} {k : Nat} (h0 : few cs k < 0) : py cs (k + 1) = py cs k := by simp only [py]; rw [dif_neg (fun h => by omega)]
theorem py_len (cs : List Int) (k : Nat) : (py cs k).length ≤ k := by
  induction k with
  | zero => exact Nat.le_refl _
  | succ k ih =>
    unfold py
    split
    · simp; omega
    · omega
def padTo (L : List Int) (a : Nat) : List Int := L ++ List.replicate (a - L.length) 1000
def outOf (ys : List Py) : List Int := ys.foldl (fun L x => padTo L x.1.1 ++ [x.2]) []
theorem outOf_snoc (ys : List Py) (x : Py) : outOf (ys ++ [x]) = padTo (outOf ys) x.1.1 ++ [x.2] := by simp [outOf]
theorem padTo_len (L : List Int) (a : Nat) : (padTo L a).length = max L.length a := by simp [padTo]; omega
theorem padTo_done {L : List Int} {a : Nat} (h : a ≤ L.length) : padTo L a = L := by simp [padTo, Nat.sub_eq_zero_of_le h]
theorem padTo_more {L : List Int} {a : Nat} (h : L.length ≤ a) : padTo L (a + 1) = padTo L a ++ [1000] := by
  unfold padTo
  rw [show a + 1 - L.length = (a - L.length) + 1 by omega, List.replicate_succ', List.append_assoc]
theorem padTo_snoc {L : List Int} {a : Nat} (h : L.length < a) : padTo (L ++ [1000]) a = padTo L a := by
  unfold padTo
  obtain ⟨d, hd⟩ : ∃ d, a - L.length = d + 1 := ⟨a - L.length - 1, by omega⟩
  rw [hd, List.replicate_succ, List.length_append, List.append_assoc]
  simp
  omega
theorem outOf_len (ys : List Py) : (outOf ys).length ≤ 301 + ys.length := by
  have key : ∀ n : Nat, ∀ ys : List Py, ys.length = n → (outOf ys).length ≤ 301 + n := by
    intro n
    induction n with
    | zero => intro ys h; rw [List.eq_nil_of_length_eq_zero h]; simp [outOf]
    | succ n ih =>
      intro ys h
      have hne : ys ≠ [] := by intro e; rw [e] at h; cases h
      rw [← List.dropLast_concat_getLast hne, outOf_snoc, List.length_append, padTo_len]
      have := ih ys.dropLast (by rw [List.length_dropLast, h]; rfl)
      have := (ys.getLast hne).1.2
      simp
      omega
  exact key _ ys rfl
def hp (cs : List Int) (k : Nat) : List Int := (List.range k).map fun a => highOf (few cs a)
theorem hp_succ (cs : List Int) (k : Nat) : hp cs (k + 1) = hp cs k ++ [highOf (few cs k)] := by simp [hp, List.range_succ]
theorem hp_len (cs : List Int) (k : Nat) : (hp cs k).length = k := by simp [hp]
theorem pad_py (cs : List Int) : ∀ k : Nat, k ≤ 301 → (outOf (py cs k)).length ≤ k ∧ padTo (outOf (py cs k)) k = hp cs k
  | 0, _ => ⟨Nat.le_refl _, rfl⟩
  | k + 1, hk => by
    obtain ⟨h1, h2⟩ := pad_py cs k (by omega)
    by_cases h : 0 ≤ few cs k
    · have hl : (padTo (outOf (py cs k)) k).length = k := by rw [padTo_len]; omega
      rw [py_yes (by omega) h, outOf_snoc, List.length_append, hl]
      refine ⟨by simp, ?_⟩
      rw [padTo_done (by rw [List.length_append, hl]; simp), h2, hp_succ, highOf, if_neg (by omega)]
    · rw [py_no (by omega)]
      refine ⟨by omega, ?_⟩
      rw [padTo_more h1, h2, hp_succ, highOf, if_pos (by omega)]
theorem hp_heights (cs : List Int) (n : Nat) : hp cs (n + 1) = heightsL cs n := by
  refine List.ext_getElem (by rw [hp_len, heightsL_len]) fun k h1 h2 => ?_
  have e := nth_heightsL cs (n := n) (k := k) (by rw [hp_len] at h1; omega)
  rw [nth, List.getElem?_eq_getElem h2] at e
  simp only [Option.getD_some] at e
  rw [e]
  simp [hp]

/-- What the map holds ahead of round a. -/
def Win (cs : List Int) (last : Int) (a : Nat) (f : Int × Int → Option Int) : Prop :=
  ∀ j : Int, f (0, j) = if 0 ≤ j ∧ j < (max a 1 : Nat) ∧ (a : Int) ≤ j + last ∧ 0 ≤ few cs j.toNat then some (few cs j.toNat) else none
theorem win_start (cs : List Int) {last : Int} (hl : 1 ≤ last) : Win cs last 0 (fun p => if p = (0, 0) then some 0 else none) := fun j => by
  dsimp only
  by_cases h : j = 0
  · subst h
    rw [if_pos rfl, if_pos ⟨by omega, by omega, by omega, by show 0 ≤ few cs 0; rw [few_zero]; omega⟩]
    rfl
  · rw [if_neg (by simpa using h), if_neg (by omega)]
theorem win_own {cs : List Int} {last : Int} {a : Nat} {f : Int × Int → Option Int} (hl : 1 ≤ last) (h : Win cs last a f) : f (0, (a : Int)) = if a = 0 then some 0 else none := by
  rw [h]
  by_cases h0 : a = 0
  · subst h0
    rw [if_pos ⟨by omega, by omega, by omega, by show 0 ≤ few cs 0; rw [few_zero]; omega⟩, if_pos rfl]
    rfl
  · rw [if_neg (by omega), if_neg h0]
theorem win_back {cs : List Int} {last : Int} {a : Nat} {f : Int × Int → Option Int} (h : Win cs last a f) {c : Int} (hc : 1 ≤ c) (hcl : c ≤ last) : f (0, (a : Int) - c) = if (a : Int) < c ∨ few cs ((a : Int) - c).toNat < 0 then none else some (few cs ((a : Int) - c).toNat) := by
  rw [h]
  by_cases h0 : (a : Int) < c ∨ few cs ((a : Int) - c).toNat < 0
  · rw [if_neg (by omega), if_pos h0]
  · rw [if_pos (by omega), if_neg h0]
theorem win_skip {cs : List Int} {last : Int} {a : Nat} {f : Int × Int → Option Int} (hl : 1 ≤ last) (h : Win cs last a f) (h0 : few cs a < 0) : Win cs last (a + 1) (fun q => if q = (0, (a : Int) - last) then none else f q) := fun j => by
  dsimp only
  have ha : a ≠ 0 := fun e => by subst e; rw [few_zero] at h0; omega
  by_cases e : j = (a : Int) - last
  · subst e
    rw [if_pos rfl, if_neg (by omega)]
  · rw [if_neg (by simpa using e), h]
    by_cases e2 : j = a
    · subst e2
      rw [if_neg (by omega), if_neg (by rw [Int.toNat_natCast]; omega)]
    · by_cases hc : 0 ≤ j ∧ j < (max a 1 : Nat) ∧ (a : Int) ≤ j + last ∧ 0 ≤ few cs j.toNat
      · rw [if_pos hc, if_pos (by omega)]
      · rw [if_neg hc, if_neg (by omega)]
theorem win_put {cs : List Int} {last : Int} {a : Nat} {f : Int × Int → Option Int} (hl : 1 ≤ last) (h : Win cs last a f) (h0 : 0 ≤ few cs a) : Win cs last (a + 1) (fun q => if q = (0, (a : Int)) then some (few cs a) else if q = (0, (a : Int) - last) then none else f q) := fun j => by
  dsimp only
  by_cases e2 : j = a
  · subst e2
    rw [if_pos rfl, if_pos ⟨by omega, by omega, by omega, by rw [Int.toNat_natCast]; exact h0⟩, Int.toNat_natCast]
  · rw [if_neg (by simpa using e2)]
    by_cases e : j = (a : Int) - last
    · subst e
      rw [if_pos rfl, if_neg (by omega)]
    · rw [if_neg (by simpa using e), h]
      by_cases hc : 0 ≤ j ∧ j < (max a 1 : Nat) ∧ (a : Int) ≤ j + last ∧ 0 ≤ few cs j.toNat
      · rw [if_pos hc, if_pos (by omega)]
      · rw [if_neg hc, if_neg (by omega)]
/-- The fewest coins, from what has been found: the fold of the round. -/
def fewStart (a : Nat) : Int := if a = 0 then 0 else -1
theorem few_fold (cs : List Int) (hc : ∀ c ∈ cs, 1 ≤ c) (a : Nat) : cs.foldl (fewStep (fewL cs a) (a : Int)) (fewStart a) = few cs a := by
  match a with
  | 0 =>
    rw [few_zero]
    have : ∀ (l : List Int) (b : Int), (∀ c ∈ l, 1 ≤ c) → l.foldl (fewStep (fewL cs 0) ((0 : Nat) : Int)) b = b := by
      intro l
      induction l with
      | nil => intro b _; rfl
      | cons c l ih =>
        intro b h
        have := h c (by simp)
        rw [List.foldl_cons, fewStep, if_pos (.inl (by omega)), ih b fun d hd => h d (by simp [hd])]
    exact this cs _ hc
  | n + 1 =>
    rw [few_succ]
    show cs.foldl (fewStep (fewL cs (n + 1)) ((n + 1 : Nat) : Int)) (-1) = cs.foldl (fewStep (fewL cs n) ((n + 1 : Nat) : Int)) (-1)
    have : ∀ (l : List Int) (b : Int), (∀ c ∈ l, 1 ≤ c) → l.foldl (fewStep (fewL cs (n + 1)) ((n + 1 : Nat) : Int)) b = l.foldl (fewStep (fewL cs n) ((n + 1 : Nat) : Int)) b := by
      intro l
      induction l with
      | nil => intro b _; rfl
      | cons c l ih =>
        intro b h
        have hc1 := h c (by simp)
        have e : fewStep (fewL cs (n + 1)) ((n + 1 : Nat) : Int) b c = fewStep (fewL cs n) ((n + 1 : Nat) : Int) b c := by
          by_cases hlt : ((n + 1 : Nat) : Int) < c
          · rw [fewStep, fewStep, if_pos (.inl hlt), if_pos (.inl hlt)]
          · unfold fewStep
            rw [nth_fewL cs (n := n + 1) (by omega), nth_fewL cs (n := n) (by omega)]
        rw [List.foldl_cons, List.foldl_cons, e, ih _ fun d hd => h d (by simp [hd])]
    exact this cs _ hc
end Go.Proofs.Ytloibnmhgocboaa

namespace Go.Proofs.Ytloibnmhgocboaa

def allKeys : List (Int × Int) := (List.range 5).flatMap fun (k : Nat) => (List.range 301).map fun (a : Nat) => (Int.ofNat k, Int.ofNat a)
def room (f : Int × Int → Option Int) : Nat := allKeys.countP fun p => (f p).isNone
theorem mem_allKeys {k a : Nat} (hk : k < 5) (ha : a ≤ 300) : ((k : Int), (a : Int)) ∈ allKeys := by
  simp only [allKeys, List.mem_flatMap, List.mem_map, List.mem_range]
  exact ⟨k, hk, a, by omega, rfl⟩
theorem room_put {f : Int × Int → Option Int} {k a : Nat} (hk : k < 5) (ha : a ≤ 300) (h : f ((k : Int), (a : Int)) = none) (v : Int) : room (fun q => if q = ((k : Int), (a : Int)) then some v else f q) + 1 ≤ room f := by
  refine countP_lt _ (fun q _ hq => ?_) ⟨_, mem_allKeys hk ha, by rw [h]; rfl, by dsimp only; rw [if_pos rfl]; rfl⟩
  by_cases e : q = ((k : Int), (a : Int))
  · subst e
    rw [h]
    rfl
  · dsimp only at hq
    rwa [if_neg e] at hq
theorem allKeys_len : allKeys.length = 1505 := by
  have h : ∀ l : List Nat, (l.flatMap fun (k : Nat) => (List.range 301).map fun (a : Nat) => (Int.ofNat k, Int.ofNat a)).length = l.length * 301 := fun l => by
    induction l with
    | nil => rfl
    | cons k l ih => rw [List.flatMap_cons, List.length_append, ih, List.length_map, List.length_range, List.length_cons]; omega
  exact h _
theorem room_le (f : Int × Int → Option Int) : room f ≤ 1505 := by
  have := List.countP_le_length (p := fun p => (f p).isNone) (l := allKeys)
  rw [allKeys_len] at this
  exact this
/-- All that is kept is right. -/
def Memo (cs st : List Int) (f : Int × Int → Option Int) : Prop := ∀ k a : Nat, ∀ v, f ((k : Int), (a : Int)) = some v → v = gmin (cs.drop k) (st.drop k) a
theorem memo_none (cs st : List Int) : Memo cs st (fun _ => none) := fun _ _ _ h => by cases h
theorem memo_put {cs st : List Int} {f : Int × Int → Option Int} (h : Memo cs st f) {k a : Nat} : Memo cs st (fun q => if q = ((k : Int), (a : Int)) then some (gmin (cs.drop k) (st.drop k) a) else f q) := fun k' a' v hv => by
  dsimp only at hv
  by_cases e : ((k' : Int), (a' : Int)) = ((k : Int), (a : Int))
  · rw [if_pos e] at hv
    have e1 : k' = k := by have := congrArg Prod.fst e; exact Int.ofNat.inj this
    have e2 : a' = a := by have := congrArg Prod.snd e; exact Int.ofNat.inj this
    subst e1
    subst e2
    exact (Option.some.inj hv).symm
  · rw [if_neg e] at hv
    exact h k' a' v hv
theorem gmin_drop {cs st : List Int} {k : Nat} (hk : k < cs.length) (hl : st.length = cs.length) (a : Int) : gmin (cs.drop k) (st.drop k) a = stepG (gmin (cs.drop (k + 1)) (st.drop (k + 1))) (nth cs k) a (roundsG (nth st k) (nth cs k) a) := by
  have e1 : cs.drop k = nth cs k :: cs.drop (k + 1) := by
    rw [List.drop_eq_getElem_cons hk, nth, List.getElem?_eq_getElem hk]
    rfl
  have e2 : st.drop k = nth st k :: st.drop (k + 1) := by
    rw [List.drop_eq_getElem_cons (by omega), nth, List.getElem?_eq_getElem (by omega)]
    rfl
  rw [e1, e2]
  rfl
theorem gmin_end {cs st : List Int} (a : Int) : gmin (cs.drop cs.length) (st.drop cs.length) a = if a = 0 then 0 else -1 := by
  rw [List.drop_length]
  cases st.drop cs.length <;> rfl
end Go.Proofs.Ytloibnmhgocboaa

namespace Go.Proofs.Ytloibnmhgocboaa

theorem dot_snoc : ∀ (l v : List Int) (c x : Int), l.length = v.length → dot (l ++ [c]) (v ++ [x]) = dot l v + c * x
  | [], [], c, x, _ => by simp [dot]
  | d :: l, y :: v, c, x, h => by
    have := dot_snoc l v c x (by simpa using h)
    simp only [List.cons_append, dot, this]
    omega
  | [], _ :: _, _, _, h => by cases h
  | _ :: _, [], _, _, h => by cases h
theorem dotTo_succ {cs v : List Int} {k : Nat} {c x : Int} (hc : cs[k]? = some c) (hx : v[k]? = some x) : dotTo cs v (k + 1) = dotTo cs v k + c * x := by
  have h1 := (List.getElem?_eq_some_iff.1 hc).1
  have h2 := (List.getElem?_eq_some_iff.1 hx).1
  unfold dotTo
  rw [take_snoc hc, take_snoc hx, dot_snoc _ _ _ _ (by rw [List.length_take, List.length_take]; omega)]
theorem dotTo_all {cs v : List Int} {n : Nat} (hc : cs.length = n) (hv : v.length = n) : dotTo cs v n = dot cs v := by
  unfold dotTo
  rw [List.take_of_length_le (by omega), List.take_of_length_le (by omega)]
def sumTo' (v : List Int) (k : Nat) : Int := (v.take k).sum
theorem sumTo'_succ {v : List Int} {k : Nat} {x : Int} (hx : v[k]? = some x) : sumTo' v (k + 1) = sumTo' v k + x := by
  unfold sumTo'
  rw [take_snoc hx, List.sum_append]
  simp
theorem sumTo'_all {v : List Int} {n : Nat} (hv : v.length = n) : sumTo' v n = v.sum := by
  unfold sumTo'
  rw [List.take_of_length_le (by omega)]
theorem sums_bd {cs v : List Int} (hc : ∀ c ∈ cs, 0 ≤ c ∧ c ≤ 50) (hv : ∀ x ∈ v, 0 ≤ x ∧ x ≤ 1000) : ∀ k : Nat, 0 ≤ dotTo cs v k ∧ dotTo cs v k ≤ 50000 * k ∧ 0 ≤ sumTo' v k ∧ sumTo' v k ≤ 1000 * k
  | 0 => by simp [dotTo, sumTo', dot]
  | k + 1 => by
    have ih := sums_bd hc hv k
    have hs : sumTo' v (k + 1) = sumTo' v k ∨ ∃ x, v[k]? = some x ∧ sumTo' v (k + 1) = sumTo' v k + x := by
      cases h : v[k]? with
      | none => left; unfold sumTo'; rw [List.take_add_one, h]; simp
      | some x => exact .inr ⟨x, rfl, sumTo'_succ h⟩
    have hd : dotTo cs v (k + 1) = dotTo cs v k ∨ ∃ c x, cs[k]? = some c ∧ v[k]? = some x ∧ dotTo cs v (k + 1) = dotTo cs v k + c * x := by
      have drop_l : ∀ (l m : List Int) (z : List Int), l.length ≥ m.length → dot (l ++ z) m = dot l m := by
        intro l
        induction l with
        | nil => intro m z h; have : m = [] := List.eq_nil_of_length_eq_zero (by simpa using h); subst this; cases z <;> rfl
        | cons a l ih => intro m z h; cases m with
          | nil => rfl
          | cons b m => simp only [List.cons_append, dot]; rw [ih m z (by simpa using h)]
      have drop_r : ∀ (l m : List Int) (z : List Int), m.length ≥ l.length → dot l (m ++ z) = dot l m := by
        intro l
        induction l with
        | nil => intro m z h; rfl
        | cons a l ih => intro m z h; cases m with
          | nil => simp at h
          | cons b m => simp only [List.cons_append, dot]; rw [ih m z (by simpa using h)]
      unfold dotTo
      cases h1 : cs[k]? with
      | none =>
        left
        have hl := List.getElem?_eq_none_iff.1 h1
        rw [List.take_of_length_le (show cs.length ≤ k + 1 by omega), List.take_of_length_le hl, List.take_add_one]
        by_cases hk : v.length ≤ k
        · rw [List.getElem?_eq_none hk]; simp
        · exact drop_r _ _ _ (by rw [List.length_take]; omega)
      | some c =>
        cases h2 : v[k]? with
        | none =>
          left
          have hl := List.getElem?_eq_none_iff.1 h2
          have hl1 := (List.getElem?_eq_some_iff.1 h1).1
          rw [List.take_of_length_le (show v.length ≤ k + 1 by omega), List.take_of_length_le hl, List.take_add_one]
          exact drop_l _ _ _ (by rw [List.length_take]; omega)
        | some x => exact .inr ⟨c, x, rfl, rfl, dotTo_succ h1 h2⟩
    have h1 : 0 ≤ sumTo' v (k + 1) ∧ sumTo' v (k + 1) ≤ 1000 * (k + 1 : Nat) := by
      rcases hs with h | ⟨x, hx, h⟩
      · rw [h]; omega
      · have := hv x (List.mem_of_getElem? hx)
        rw [h]; omega
    have h2 : 0 ≤ dotTo cs v (k + 1) ∧ dotTo cs v (k + 1) ≤ 50000 * (k + 1 : Nat) := by
      rcases hd with h | ⟨c, x, hc', hx, h⟩
      · rw [h]; omega
      · have h3 := hv x (List.mem_of_getElem? hx)
        have h4 := hc c (List.mem_of_getElem? hc')
        have h5 : 0 ≤ c * x := Int.mul_nonneg h4.1 h3.1
        have h6 : c * x ≤ 50 * 1000 := Int.mul_le_mul h4.2 h3.2 h3.1 (by omega)
        rw [h]; omega
    exact ⟨h2.1, h2.2, h1.1, h1.2⟩
end Go.Proofs.Ytloibnmhgocboaa

namespace Go.Proofs.Ytloibnmhgocboaa

/-- What is taken, and the rest, when the kinds from k on have been gone through. -/
def gRest (cs : List Int) (a : Int) (k : Nat) : Int := (greedyL (cs.drop k) a).2
def gOut (cs : List Int) (a : Int) (k : Nat) : List Int := List.replicate k 0 ++ (greedyL (cs.drop k) a).1
theorem drop_cons {cs : List Int} {k : Nat} {c : Int} (h : cs[k]? = some c) : cs.drop k = c :: cs.drop (k + 1) := by
  obtain ⟨h1, h2⟩ := List.getElem?_eq_some_iff.1 h
  rw [List.drop_eq_getElem_cons h1, h2]
theorem greedyL_len : ∀ (cs : List Int) (a : Int), (greedyL cs a).1.length = cs.length
  | [], _ => rfl
  | c :: cs, a => by simp [greedyL, greedyL_len cs a]
theorem gRest_step {cs : List Int} {a : Int} {k : Nat} {c : Int} (h : cs[k]? = some c) : gRest cs a k = gRest cs a (k + 1) % c := by
  unfold gRest
  rw [drop_cons h]
  rfl
theorem gOut_step {cs : List Int} {a : Int} {k : Nat} {c : Int} (h : cs[k]? = some c) : gOut cs a k = (gOut cs a (k + 1)).set k (gRest cs a (k + 1) / c) := by
  unfold gOut gRest
  rw [drop_cons h, List.replicate_succ', List.append_assoc, List.set_append_right _ _ (by simp)]
  simp [greedyL]
theorem gOut_len {cs : List Int} {a : Int} {k : Nat} (h : k ≤ cs.length) : (gOut cs a k).length = cs.length := by
  unfold gOut
  rw [List.length_append, greedyL_len, List.length_replicate, List.length_drop]
  omega
theorem gOut_zero {cs : List Int} {a : Int} {k : Nat} : nth (gOut cs a (k + 1)) k = 0 := by
  unfold gOut
  rw [nth_append_left (by simp), nth, List.getElem?_replicate, if_pos (by omega)]
  rfl
theorem gRest_bd {cs : List Int} (hc : ∀ c ∈ cs, 1 ≤ c) {a : Int} (ha : 0 ≤ a) (k : Nat) : 0 ≤ gRest cs a k ∧ gRest cs a k ≤ a := by
  have := greedy_facts (cs.drop k) a (fun c h => hc c (List.mem_of_mem_drop h)) ha
  exact this.2
theorem gRest_end {cs : List Int} {a : Int} {n : Nat} (h : cs.length = n) : gRest cs a n = a ∧ gOut cs a n = List.replicate n 0 := by
  unfold gRest gOut
  rw [List.drop_eq_nil_of_le (by omega)]
  simp [greedyL]
theorem gRest_all (cs : List Int) (a : Int) : gRest cs a 0 = (greedyL cs a).2 ∧ gOut cs a 0 = (greedyL cs a).1 := by simp [gRest, gOut]
/-- How often a coin goes into a rest. -/
theorem div_found {r c : Int} {j : Nat} (hc : 1 ≤ c) (h1 : (j : Int) * c ≤ r) (h2 : r - j * c < c) : r / c = j ∧ r % c = r - j * c := by
  have e : r / c = j := by
    apply Int.le_antisymm
    · have := (Int.ediv_lt_iff_lt_mul (a := r) (b := (j : Int) + 1) (show 0 < c by omega)).2 (by rw [Int.add_mul]; omega)
      omega
    · exact (Int.le_ediv_iff_mul_le (by omega)).2 h1
  refine ⟨e, ?_⟩
  have := Int.mul_ediv_add_emod r c
  rw [e, Int.mul_comm] at this
  omega
end Go.Proofs.Ytloibnmhgocboaa

namespace Go.Proofs.Ytloibnmhgocboaa

def mixW (c : Nat) (L : List Int) (N t : Nat) : List Int := (List.range (N + 1)).map fun j => if j < t then atC c L j else nth L j
theorem mixW_len (c : Nat) (L : List Int) (N t : Nat) : (mixW c L N t).length = N + 1 := by simp [mixW]
theorem nth_mixW {c : Nat} {L : List Int} {N t j : Nat} (h : j ≤ N) : nth (mixW c L N t) j = if j < t then atC c L j else nth L j := by
  unfold mixW
  rw [nth_range_map (by omega)]
theorem eq_of_nth {L M : List Int} {n : Nat} (hl : L.length = n) (hm : M.length = n) (h : ∀ j : Nat, j < n → nth L j = nth M j) : L = M := List.ext_getElem (by omega) fun j h1 h2 => by
  have := h j (by omega)
  rw [nth, nth, List.getElem?_eq_getElem h1, List.getElem?_eq_getElem h2] at this
  exact this
theorem mixW_start {c : Nat} (hc : 1 ≤ c) {L : List Int} {N : Nat} (hl : L.length = N + 1) : mixW c L N c = L := eq_of_nth (mixW_len _ _ _ _) hl fun j hj => by
  rw [nth_mixW (by omega)]
  split
  · rw [atC_eq c hc, if_neg (by omega), Int.add_zero]
  · rfl
theorem nth_setL {xs : List Int} {j k : Nat} {x : Int} (hj : j < xs.length) : nth (xs.set j x) k = if j = k then x else nth xs k := by
  unfold nth
  rw [List.getElem?_set]
  by_cases h : j = k
  · subst h; rw [if_pos rfl, if_pos hj, if_pos rfl]; rfl
  · rw [if_neg h, if_neg h]
theorem mixW_step {c : Nat} {L : List Int} {N t : Nat} (ht : t ≤ N) : (mixW c L N t).set t (atC c L t) = mixW c L N (t + 1) := eq_of_nth (by rw [List.length_set, mixW_len]) (mixW_len _ _ _ _) fun j hj => by
  rw [nth_setL (by rw [mixW_len]; omega), nth_mixW (by omega), nth_mixW (by omega)]
  by_cases h : t = j
  · subst h
    rw [if_pos rfl, if_pos (by omega)]
  · rw [if_neg h]
    by_cases h2 : j < t
    · rw [if_pos h2, if_pos (by omega)]
    · rw [if_neg h2, if_neg (by omega)]
theorem mixW_over {c : Nat} {L : List Int} {N t : Nat} (ht : N < t) : mixW c L N (t + 1) = mixW c L N t := eq_of_nth (mixW_len _ _ _ _) (mixW_len _ _ _ _) fun j hj => by
  rw [nth_mixW (by omega), nth_mixW (by omega), if_pos (by omega), if_pos (by omega)]
theorem mixW_all {c : Nat} {L : List Int} {N t : Nat} (ht : N < t) : mixW c L N t = addC c L (N + 1) := eq_of_nth (mixW_len _ _ _ _) (addC_len _ _ _) fun j hj => by
  rw [nth_mixW (by omega), if_pos (by omega), nth_addC' c L hj]
def wRow (cs : List Int) (N i : Nat) : List Int := waysL (cs.take i) N
theorem wRow_zero (cs : List Int) (N : Nat) : wRow cs N 0 = startW N := rfl
theorem wRow_succ {cs : List Int} {N i : Nat} {c : Int} (h : cs[i]? = some c) : wRow cs N (i + 1) = addC c.toNat (wRow cs N i) (N + 1) := by
  unfold wRow waysL
  rw [take_snoc h, List.foldl_append]
  rfl
theorem wRow_len (cs : List Int) (N i : Nat) : (wRow cs N i).length = N + 1 := waysL_len _ _
theorem wRow_bd {cs : List Int} (hg : Good cs) {N : Nat} (hN : N ≤ 300) (i k : Nat) (hk : k ≤ N) : 0 ≤ nth (wRow cs N i) k ∧ nth (wRow cs N i) k ≤ 8208541201 := by
  have hc : ∀ c ∈ cs.take i, 1 ≤ c := fun c h => (hg.all c (List.mem_of_mem_take h)).1
  unfold wRow
  rw [nth_waysL hc hk]
  have h := waysF_bd hc hN k hk
  have h2 : (cs.take i).length - 1 ≤ 4 := by rw [List.length_take]; have := hg.hi; omega
  have h3 := pow301 h2
  exact ⟨h.1, Int.le_trans h.2 (Int.ofNat_le.2 h3)⟩
theorem atC_wRow {cs : List Int} {N i : Nat} {c : Int} (h : cs[i]? = some c) {k : Nat} (hk : k ≤ N) : atC c.toNat (wRow cs N i) k = nth (wRow cs N (i + 1)) k := by
  rw [wRow_succ h, nth_addC' _ _ (by omega)]
theorem startW_zeros (N : Nat) : (List.replicate (N + 1) (0 : Int)).set 0 1 = startW N := by simp [startW, List.replicate_succ]
end Go.Proofs.Ytloibnmhgocboaa

namespace Go.Proofs.Ytloibnmhgocboaa

/-- k kinds have been gone through: P is what has been picked of them, and (r, l) what is left for the others. -/
structure ChgAt (cs st : List Int) (L : List Int) (k : Nat) (P : List Int) (r l : Int) : Prop where
  len : P.length = k
  all : L = P ++ chg (cs.drop k) (st.drop k) r l
  best : gmin (cs.drop k) (st.drop k) r = l
  rest : 0 ≤ r ∧ r ≤ 300
  left : 0 ≤ l ∧ l ≤ 300
theorem chgAt_start {cs st : List Int} {a : Int} (h0 : 0 ≤ a) (h1 : a ≤ 300) (hl : 0 ≤ gmin cs st a) (hl2 : gmin cs st a ≤ a) : ChgAt cs st (chg cs st a (gmin cs st a)) 0 [] a (gmin cs st a) := ⟨rfl, rfl, rfl, ⟨h0, h1⟩, ⟨hl, by omega⟩⟩
theorem chgAt_cons {cs st : List Int} {k : Nat} {c s : Int} (hc : cs[k]? = some c) (hs : st[k]? = some s) : cs.drop k = c :: cs.drop (k + 1) ∧ st.drop k = s :: st.drop (k + 1) := by
  obtain ⟨h1, h2⟩ := List.getElem?_eq_some_iff.1 hc
  obtain ⟨h3, h4⟩ := List.getElem?_eq_some_iff.1 hs
  rw [List.drop_eq_getElem_cons h1, List.drop_eq_getElem_cons h3, h2, h4]
  exact ⟨rfl, rfl⟩
theorem chgAt_next {cs st L P : List Int} {k : Nat} {r l c s : Int} (h : ChgAt cs st L k P r l) (hc : cs[k]? = some c) (hs : st[k]? = some s) (hc1 : 1 ≤ c) (hs0 : 0 ≤ s) :
    ∃ p : Nat, (p : Int) ≤ s ∧ (p : Int) * c ≤ r ∧ (p : Int) ≤ l ∧ gmin (cs.drop (k + 1)) (st.drop (k + 1)) (r - p * c) = l - p ∧ (∀ j : Nat, j < p → gmin (cs.drop (k + 1)) (st.drop (k + 1)) (r - j * c) ≠ l - j) ∧ ChgAt cs st L (k + 1) (P ++ [(p : Int)]) (r - p * c) (l - p) := by
  obtain ⟨e1, e2⟩ := chgAt_cons hc hs
  have hb := h.best
  have ha := h.all
  rw [e1, e2] at hb ha
  obtain ⟨p1, p2, p3, p4⟩ := pick_facts hc1 hs0 h.rest.1 hb h.left.1
  have hr := (rounds_lt hs0 hc1 h.rest.1 _).1 p1
  have hnn : 0 ≤ (pickN (cs.drop (k + 1)) (st.drop (k + 1)) c r l : Int) * c := Int.mul_nonneg (by omega) (by omega)
  refine ⟨_, hr.1, hr.2, p3, p2, p4, ⟨by simp [h.len], ?_, p2, ⟨by omega, by have := h.rest.2; omega⟩, ⟨by omega, by have := h.left.2; omega⟩⟩⟩
  rw [ha, chg_cons, List.append_assoc]
  rfl
theorem chgAt_end {cs st L P : List Int} {n : Nat} {r l : Int} (hn : cs.length = n) (h : ChgAt cs st L n P r l) : L = P := by
  have := h.all
  rw [List.drop_eq_nil_of_le (by omega)] at this
  rw [this]
  simp [chg]
end Go.Proofs.Ytloibnmhgocboaa
