/-
  Plain: what the rounds of the distances come to, for the states of a wheel.
  Plain: the closed parts of a wheel.
  Plain: the closed parts of a wheel, by bits.
  Plain: what the parts of a wheel share, and the places that lead out.
  Plain: determinants of small tables.
  Plain: the chances of a wheel.
  Plain: the chances of a wheel, by the number of open states.
  Plain: what the law asks of the parts and the chances of a wheel.
-/
import Derived.Test.YtibmpjhffeinoaaGreatMq
namespace Go.Proofs.YtibmpjhffeinoaaGreat
open Go.RowKit

section
variable {N : Nat → Nat → Int} {n : Nat} {part : List Int}
theorem repl_at {α : Type} (a : α) {n i : Nat} (hi : i < n) : (List.replicate n a)[i]? = some a := by rw [List.getElem?_replicate, if_pos hi]
theorem msL_at {i : Nat} (hi : i < n) : (msL N n)[i]? = some (mvL N i n) := by
  unfold msL
  rw [List.getElem?_map, List.getElem?_range hi]
  rfl
theorem wonS_at {i : Nat} (hi : i < n) : (wonS n part)[i]? = some (decide ((i : Int) ∈ part)) := by
  unfold wonS
  rw [List.getElem?_map, List.getElem?_range hi]
  rfl
theorem gd_nat (fs : List Int) (k : Nat) : gd fs (k : Int) = decide (0 ≤ nth fs k) := by
  unfold gd
  rw [Int.toNat_natCast]
theorem win_true {fs : List Int} {i : Nat} (hi : i < n) : winB (List.replicate n true) (msL N n) fs i = true ↔ ∃ k, k < n ∧ 0 < N i k ∧ 0 ≤ nth fs k := by
  have h : winB (List.replicate n true) (msL N n) fs i = (mvL N i n).any (gd fs) := by
    unfold winB
    rw [repl_at true hi, msL_at hi]
    rfl
  rw [h, List.any_eq_true]
  constructor
  · rintro ⟨x, hx, hg⟩
    obtain ⟨k, rfl, h1, h2⟩ := mvL_mem.1 hx
    rw [gd_nat, decide_eq_true_eq] at hg
    exact ⟨k, h1, h2, hg⟩
  · rintro ⟨k, h1, h2, h3⟩
    exact ⟨(k : Int), mvL_mem.2 ⟨k, rfl, h1, h2⟩, by rw [gd_nat, decide_eq_true_eq]; exact h3⟩
theorem win_false {fs : List Int} {i : Nat} (hi : i < n) (h : winB (List.replicate n false) (msL N n) fs i = true) : ∀ k, k < n → 0 < N i k → 0 ≤ nth fs k := fun k hk hp => by
  have h' : winB (List.replicate n false) (msL N n) fs i = (decide (0 < (mvL N i n).length) && !(mvL N i n).any fun x => !gd fs x) := by
    unfold winB
    rw [repl_at false hi, msL_at hi]
    rfl
  rw [h', Bool.and_eq_true, Bool.not_eq_true', List.any_eq_false] at h
  have h2 := h.2 (k : Int) (mvL_mem.2 ⟨k, rfl, hk, hp⟩)
  rw [gd_nat, Bool.not_eq_true', Bool.not_eq_false, decide_eq_true_eq] at h2
  exact h2
theorem Rch.cons {i j k : Nat} (hp : 0 < N i j) (hj : j < n) (h : Rch N n j k) : Rch N n i k := by
  induction h with
  | one h1 h2 => exact .more (.one hj hp) h1 h2
  | more _ h1 h2 ih => exact .more ih h1 h2
theorem Rch.trans {i j k : Nat} (h1 : Rch N n i j) (h2 : Rch N n j k) : Rch N n i k := by
  induction h2 with
  | one h3 h4 => exact .more h1 h3 h4
  | more _ h3 h4 ih => exact .more ih h3 h4
/-- The first step. -/
theorem Rch.first {i k : Nat} (h : Rch N n i k) : ∃ j, j < n ∧ 0 < N i j ∧ (j = k ∨ Rch N n j k) := by
  induction h with
  | one h1 h2 => exact ⟨_, h1, h2, .inl rfl⟩
  | more _ h1 h2 ih =>
    obtain ⟨j, h3, h4, h5⟩ := ih
    refine ⟨j, h3, h4, .inr ?_⟩
    rcases h5 with rfl | h5
    · exact .one h1 h2
    · exact .more h5 h1 h2
/-- A set that is not left. -/
theorem Rch.stays {i k : Nat} (h : Rch N n i k) (Z : Nat → Prop) (hi : Z i) (hz : ∀ j l, Z j → l < n → 0 < N j l → Z l) : Z k := by
  induction h with
  | one h1 h2 => exact hz _ _ hi h1 h2
  | more _ h1 h2 ih => exact hz _ _ ih h1 h2
/-- A won place stays won. -/
theorem rounds_won {ps : List Bool} {Ms : List (List Int)} (hn : n ≤ 4) {i : Nat} (hi : i < n) (hp : (i : Int) ∈ part) : ∀ K, 0 ≤ nth (rounds ps Ms (wonS n part) n K) i
  | 0 => by
    show 0 ≤ nth (far0 _ _) i
    rw [far0_at (by omega), if_pos ⟨hi, by rw [wonS_at hi, decide_eq_true hp]⟩]
    omega
  | K + 1 => by
    have ih := rounds_won (ps := ps) (Ms := Ms) hn hi hp K
    show 0 ≤ nth (stepAt _ _ _ _ _) i
    rw [stepAt_at (by omega)]
    split <;> omega
/-- Behind the last round. -/
theorem rounds_fix {ps : List Bool} {Ms : List (List Int)} (hn : n ≤ 4) {K : Nat} (hf : rounds ps Ms (wonS n part) n (K + 1) = rounds ps Ms (wonS n part) n K) {i : Nat} (hi : i < n) (hw : winB ps Ms (rounds ps Ms (wonS n part) n K) i = true) : 0 ≤ nth (rounds ps Ms (wonS n part) n K) i := by
  have h : nth (rounds ps Ms (wonS n part) n (K + 1)) i = nth (rounds ps Ms (wonS n part) n K) i := by rw [hf]
  rw [show rounds ps Ms (wonS n part) n (K + 1) = stepAt ps Ms ((K : Int) + 1) (rounds ps Ms (wonS n part) n K) n from rfl, stepAt_at (by omega)] at h
  by_cases h0 : nth (rounds ps Ms (wonS n part) n K) i < 0
  · rw [if_pos ⟨hi, h0, hw⟩] at h
    omega
  · omega
/-- The player moves: won is what reaches a won place. -/
theorem far_sound (hn : n ≤ 4) : ∀ K i, i < n → 0 ≤ nth (rounds (List.replicate n true) (msL N n) (wonS n part) n K) i → (i : Int) ∈ part ∨ ∃ j : Nat, (j : Int) ∈ part ∧ Rch N n i j
  | 0, i, hi, h => by
    change 0 ≤ nth (far0 _ _) i at h
    rw [far0_at (by omega), wonS_at hi] at h
    split at h
    · rename_i h2
      exact .inl (of_decide_eq_true (Option.some.inj h2.2))
    · omega
  | K + 1, i, hi, h => by
    change 0 ≤ nth (stepAt _ _ _ _ _) i at h
    rw [stepAt_at (by omega)] at h
    split at h
    · rename_i h2
      obtain ⟨k, hk, hp, h3⟩ := (win_true hi).1 h2.2.2
      rcases far_sound hn K k hk h3 with h4 | ⟨j, h4, h5⟩
      · exact .inr ⟨k, h4, .one hk hp⟩
      · exact .inr ⟨j, h4, .cons hp hk h5⟩
    · exact far_sound hn K i hi h
theorem far_true (hn : n ≤ 4) (hpart : ∀ x ∈ part, ∃ k : Nat, x = k ∧ k < n) {K : Nat} (hf : rounds (List.replicate n true) (msL N n) (wonS n part) n (K + 1) = rounds (List.replicate n true) (msL N n) (wonS n part) n K) {i : Nat} (hi : i < n) :
    0 ≤ nth (rounds (List.replicate n true) (msL N n) (wonS n part) n K) i ↔ (i : Int) ∈ part ∨ ∃ j : Nat, (j : Int) ∈ part ∧ Rch N n i j := by
  constructor
  · exact far_sound hn K i hi
  · rintro (h | ⟨j, h, hr⟩)
    · exact rounds_won hn hi h K
    · have hj : j < n := by
        obtain ⟨k, h1, h2⟩ := hpart _ h
        omega
      have hj0 : 0 ≤ nth (rounds (List.replicate n true) (msL N n) (wonS n part) n K) j := rounds_won hn hj h K
      clear h
      induction hr with
      | one h1 h2 => exact rounds_fix hn hf hi ((win_true hi).2 ⟨_, h1, h2, hj0⟩)
      | more h3 h1 h2 ih => exact ih h3.lt (rounds_fix hn hf h3.lt ((win_true h3.lt).2 ⟨_, h1, h2, hj0⟩))
/-- The others move: what may be held outside is not won. -/
theorem far_false (hn : n ≤ 4) (Z : Nat → Prop) (hZ : ∀ i, i < n → Z i → (i : Int) ∉ part ∧ ∃ k, k < n ∧ 0 < N i k ∧ Z k) : ∀ K i, i < n → Z i → nth (rounds (List.replicate n false) (msL N n) (wonS n part) n K) i < 0
  | 0, i, hi, h => by
    show nth (far0 _ _) i < 0
    rw [far0_at (by omega), wonS_at hi, decide_eq_false (hZ i hi h).1, if_neg (fun h => by simp at h)]
    omega
  | K + 1, i, hi, h => by
    have ih := far_false hn Z hZ K
    show nth (stepAt _ _ _ _ _) i < 0
    rw [stepAt_at (by omega), if_neg fun h2 => ?_]
    · exact ih i hi h
    · obtain ⟨k, hk, hp, hz⟩ := (hZ i hi h).2
      have h3 := win_false hi h2.2.2 k hk hp
      have h4 := ih k hk hz
      omega
end
end Go.Proofs.YtibmpjhffeinoaaGreat

namespace Go.Proofs.YtibmpjhffeinoaaGreat
open Go.RowKit

theorem flen_le {α : Type} {p q : α → Bool} : ∀ (xs : List α), (∀ x ∈ xs, p x = true → q x = true) → (xs.filter p).length ≤ (xs.filter q).length
  | [], _ => Nat.le_refl _
  | x :: xs, h => by
    have ih := flen_le xs fun y hy => h y (List.mem_cons_of_mem _ hy)
    have h0 := h x (List.mem_cons_self)
    rw [List.filter_cons, List.filter_cons]
    by_cases hp : p x = true
    · rw [if_pos hp, if_pos (h0 hp)]
      simp only [List.length_cons]
      omega
    · rw [if_neg hp]
      split
      · simp only [List.length_cons]
        omega
      · exact ih
theorem flen_lt {α : Type} {p q : α → Bool} : ∀ (xs : List α), (∀ x ∈ xs, p x = true → q x = true) → (∃ x ∈ xs, q x = true ∧ ¬ p x = true) → (xs.filter p).length < (xs.filter q).length
  | [], _, h => by
    obtain ⟨x, hx, _⟩ := h
    exact absurd hx (List.not_mem_nil)
  | x :: xs, h, ⟨y, hy, hq, hp⟩ => by
    have ih0 := flen_le xs fun y hy => h y (List.mem_cons_of_mem _ hy)
    have h0 := h x (List.mem_cons_self)
    rw [List.filter_cons, List.filter_cons]
    rcases List.mem_cons.1 hy with rfl | hy
    · rw [if_neg hp, if_pos hq]
      simp only [List.length_cons]
      omega
    · have ih := flen_lt xs (fun y hy => h y (List.mem_cons_of_mem _ hy)) ⟨y, hy, hq, hp⟩
      by_cases hp : p x = true
      · rw [if_pos hp, if_pos (h0 hp)]
        simp only [List.length_cons]
        omega
      · rw [if_neg hp]
        split
        · simp only [List.length_cons]
          omega
        · exact ih
theorem least {p : Nat → Prop} : ∀ {k : Nat}, p k → ∃ m, p m ∧ ∀ j, p j → m ≤ j := fun {k} => by
  induction k using Nat.strongRecOn with
  | ind k ih =>
    intro h
    by_cases hm : ∃ j, j < k ∧ p j
    · obtain ⟨j, h1, h2⟩ := hm
      exact ih j h1 h2
    · exact ⟨k, h, fun j hj => by
        by_cases h3 : j < k
        · exact absurd ⟨j, h3, hj⟩ hm
        · omega⟩
section
variable {N : Nat → Nat → Int} {n : Nat}
open Classical in
theorem rchL_eq {i j : Nat} (h : ∀ k, Rch N n i k ↔ Rch N n j k) : rchL N n i = rchL N n j := by
  unfold rchL
  refine List.filter_congr fun x _ => ?_
  exact decide_eq_decide.2 (h _)
theorem rchL_iff (hn : n ≤ 4) {i j : Nat} (h : rchL N n i = rchL N n j) (k : Nat) : Rch N n i k ↔ Rch N n j k := by
  rw [← rchL_mem hn, ← rchL_mem hn, h]
open Classical in
theorem rchL_lt {i j : Nat} (hn : n ≤ 4) (h : ∀ k, Rch N n i k → Rch N n j k) (hne : ∃ k, Rch N n j k ∧ ¬ Rch N n i k) : (rchL N n i).length < (rchL N n j).length := by
  unfold rchL
  refine flen_lt _ (fun x _ hx => decide_eq_true (h _ (of_decide_eq_true hx))) ?_
  obtain ⟨k, h1, h2⟩ := hne
  have hk := h1.lt
  refine ⟨(k : Int), ?_, decide_eq_true (by rw [Int.toNat_natCast]; exact h1), fun h3 => h2 (by have := of_decide_eq_true h3; rwa [Int.toNat_natCast] at this)⟩
  simp only [List.mem_cons, List.not_mem_nil, or_false]
  omega
theorem rchL_nodup (i : Nat) : (rchL N n i).Nodup := List.Nodup.sublist (List.filter_sublist) (by decide)
theorem rchL_len (i : Nat) : (rchL N n i).length ≤ 4 := List.length_filter_le _ _
/-- What is reached leads back: a part begins there. -/
theorem min_part (hn : n ≤ 4) {m : Nat} (hmv : ∃ k, k < n ∧ 0 < N m k) (hc : ∀ k, Rch N n m k → Rch N n k m) : ∃ y, isPart N n y ∧ Rch N n y m ∧ ∀ x, Rch N n m x → y ≤ x := by
  obtain ⟨k, hk, hp⟩ := hmv
  obtain ⟨y, hy, hmin⟩ := least (p := Rch N n m) (Rch.one hk hp)
  have hym := hc y hy
  have hall : ∀ x, Rch N n m x → rchL N n x = rchL N n m := fun x hx => rchL_eq fun l => ⟨fun h => hx.trans h, fun h => (hc x hx).trans h⟩
  refine ⟨y, ⟨fun x hx => ?_, ?_⟩, hym, hmin⟩
  · obtain ⟨l, rfl, hl⟩ := rchL_of hx
    rw [Int.toNat_natCast]
    have h1 := hmin l (hy.trans hl)
    exact ⟨by omega, by rw [hall l (hy.trans hl), hall y hy]⟩
  · rw [rchL_mem hn]
    exact hym.trans hy
/-- Every state leads to a part. -/
theorem to_part (hn : n ≤ 4) (hmv : ∀ i, i < n → ∃ k, k < n ∧ 0 < N i k) : ∀ (c x : Nat), x < n → (rchL N n x).length ≤ c → ∃ y, isPart N n y ∧ Rch N n x y := fun c => by
  induction c with
  | zero =>
    intro x hx hl
    obtain ⟨k, hk, hp⟩ := hmv x hx
    have h1 := (rchL_mem (N := N) (i := x) hn).2 (Rch.one hk hp)
    rw [List.length_eq_zero_iff.1 (Nat.le_zero.1 hl)] at h1
    exact absurd h1 (List.not_mem_nil)
  | succ c ih =>
    intro x hx hl
    by_cases hc : ∀ k, Rch N n x k → ∀ l, Rch N n x l → Rch N n k l
    · obtain ⟨k, hk, hp⟩ := hmv x hx
      have hxk : Rch N n x k := .one hk hp
      obtain ⟨y, h1, h2, _⟩ := min_part hn (hmv k hk) fun l hl => hc l (hxk.trans hl) k hxk
      have hky : Rch N n k y := by
        have h3 := h1.1 (k : Int) ((rchL_mem hn).2 h2)
        rw [Int.toNat_natCast] at h3
        rw [← rchL_mem hn, h3.2]
        exact h1.2
      exact ⟨y, h1, hxk.trans hky⟩
    · obtain ⟨k, hk⟩ := Classical.not_forall.1 hc
      obtain ⟨h1, h2⟩ := Classical.not_imp.1 hk
      obtain ⟨l, hl⟩ := Classical.not_forall.1 h2
      obtain ⟨h3, h4⟩ := Classical.not_imp.1 hl
      have h5 : (rchL N n k).length < (rchL N n x).length := rchL_lt hn (fun l hl => h1.trans hl) ⟨l, h3, h4⟩
      obtain ⟨y, h6, h7⟩ := ih k h1.lt (by omega)
      exact ⟨y, h6, h1.trans h7⟩
end
end Go.Proofs.YtibmpjhffeinoaaGreat

namespace Go.Proofs.YtibmpjhffeinoaaGreat
open Go.RowKit

/-- A bit of a row. -/
def bt (v : List Nat) (i k : Nat) : Prop := (nat v i).testBit k = true
section
variable {N : Nat → Nat → Int} {n : Nat} {v : List Nat}
theorem nat_set {i j x : Nat} (hi : i < v.length) : nat (v.set i x) j = if i = j then x else nat v j := by
  unfold nat
  rw [List.getElem?_set]
  by_cases e : i = j
  · rw [if_pos e, if_pos (by omega), if_pos e]
    rfl
  · rw [if_neg e, if_neg e]
theorem ldS_len {i k : Nat} : (ldS N v i k).length = v.length := by
  unfold ldS
  split <;> simp
theorem ldS_bt {i k j l : Nat} (hi : i < v.length) : bt (ldS N v i k) j l ↔ bt v j l ∨ (j = i ∧ 0 < N i k ∧ (l = k ∨ bt v k l)) := by
  unfold ldS bt
  by_cases hp : 0 < N i k
  · rw [if_pos hp, nat_set hi]
    by_cases e : i = j
    · subst e
      rw [if_pos rfl, Nat.testBit_or, Nat.testBit_or, Nat.testBit_two_pow, Bool.or_eq_true, Bool.or_eq_true, decide_eq_true_eq]
      constructor
      · rintro (h | h | h)
        · exact .inl h
        · exact .inr ⟨rfl, hp, .inl h.symm⟩
        · exact .inr ⟨rfl, hp, .inr h⟩
      · rintro (h | ⟨_, _, h | h⟩)
        · exact .inl h
        · exact .inr (.inl h.symm)
        · exact .inr (.inr h)
    · rw [if_neg e]
      exact ⟨.inl, fun h => h.elim id fun h => absurd h.1.symm e⟩
  · rw [if_neg hp]
    exact ⟨.inl, fun h => h.elim id fun h => absurd h.2.1 hp⟩
theorem ld1_len {i : Nat} : ∀ q, (ld1 N v i q).length = v.length
  | 0 => rfl
  | q + 1 => ldS_len.trans (ld1_len q)
theorem ld2_len : ∀ q, (ld2 N n v q).length = v.length
  | 0 => rfl
  | q + 1 => (ld1_len n).trans (ld2_len q)
theorem ld3_len : ∀ d, (ld3 N n d).length = n
  | 0 => List.length_replicate
  | d + 1 => (ld2_len n).trans (ld3_len d)
theorem ld1_mono {i j l : Nat} (hi : i < v.length) (h : bt v j l) : ∀ q, bt (ld1 N v i q) j l
  | 0 => h
  | q + 1 => (ldS_bt (by rw [ld1_len]; exact hi)).2 (.inl (ld1_mono hi h q))
theorem ld2_mono {j l : Nat} (h : bt v j l) : ∀ q, q ≤ v.length → bt (ld2 N n v q) j l
  | 0, _ => h
  | q + 1, hq => ld1_mono (by rw [ld2_len]; exact hq) (ld2_mono h q (by omega)) n
theorem ld1_step {i k : Nat} (hi : i < v.length) (hp : 0 < N i k) : ∀ q, k < q → bt (ld1 N v i q) i k ∧ ∀ l, bt v k l → bt (ld1 N v i q) i l
  | q + 1, hk => by
    have hl : i < (ld1 N v i q).length := by rw [ld1_len]; exact hi
    by_cases e : k = q
    · subst e
      exact ⟨(ldS_bt hl).2 (.inr ⟨rfl, hp, .inl rfl⟩), fun l h => (ldS_bt hl).2 (.inr ⟨rfl, hp, .inr (ld1_mono hi h k)⟩)⟩
    · have ih := ld1_step hi hp q (by omega)
      exact ⟨(ldS_bt hl).2 (.inl ih.1), fun l h => (ldS_bt hl).2 (.inl (ih.2 l h))⟩
theorem ld2_step {i k : Nat} (hk : k < n) (hp : 0 < N i k) : ∀ q, q ≤ v.length → i < q → bt (ld2 N n v q) i k ∧ ∀ l, bt v k l → bt (ld2 N n v q) i l
  | q + 1, hq, hi => by
    have hl : q < (ld2 N n v q).length := by rw [ld2_len]; exact hq
    by_cases e : i = q
    · subst e
      have h := ld1_step (v := ld2 N n v i) hl hp n hk
      exact ⟨h.1, fun l h2 => h.2 l (ld2_mono h2 i (by omega))⟩
    · have ih := ld2_step hk hp q (by omega) (by omega)
      exact ⟨ld1_mono hl ih.1 n, fun l h => ld1_mono hl (ih.2 l h) n⟩
/-- Bits say what is reached. -/
def Snd (N : Nat → Nat → Int) (n : Nat) (v : List Nat) : Prop := ∀ j l, j < n → bt v j l → Rch N n j l
theorem ldS_snd {i k : Nat} (hi : i < v.length) (hk : k < n) (h : Snd N n v) : Snd N n (ldS N v i k) := fun j l hj hb => by
  rcases (ldS_bt hi).1 hb with h1 | ⟨rfl, hp, rfl | h1⟩
  · exact h j l hj h1
  · exact .one hk hp
  · exact .cons hp hk (h k l hk h1)
theorem ld1_snd {i : Nat} (hi : i < v.length) (h : Snd N n v) : ∀ q, q ≤ n → Snd N n (ld1 N v i q)
  | 0, _ => h
  | q + 1, hq => ldS_snd (by rw [ld1_len]; exact hi) hq (ld1_snd hi h q (by omega))
theorem ld2_snd (h : Snd N n v) : ∀ q, q ≤ v.length → Snd N n (ld2 N n v q)
  | 0, _ => h
  | q + 1, hq => ld1_snd (by rw [ld2_len]; exact hq) (ld2_snd h q (by omega)) n (Nat.le_refl _)
theorem ld3_snd : ∀ d, Snd N n (ld3 N n d)
  | 0 => fun j l hj hb => by
    unfold bt nat ld3 at hb
    rw [List.getElem?_replicate, if_pos hj] at hb
    simp at hb
  | d + 1 => ld2_snd (ld3_snd d) n (by rw [ld3_len]; exact Nat.le_refl _)
/-- Reached by at most d turns. -/
def Vd (N : Nat → Nat → Int) (n i : Nat) : Nat → Nat → Prop
  | 0, _ => False
  | d + 1, k => k < n ∧ (0 < N i k ∨ ∃ j, Vd N n i d j ∧ 0 < N j k)
theorem Vd_lt {i k : Nat} : ∀ d, Vd N n i d k → k < n
  | 0, h => h.elim
  | _ + 1, h => h.1
theorem Vd_rch {i k : Nat} : ∀ d, Vd N n i d k → Rch N n i k := fun d => by
  induction d generalizing k with
  | zero => exact fun h => h.elim
  | succ d ih =>
    rintro ⟨h1, h2 | ⟨j, h2, h3⟩⟩
    · exact .one h1 h2
    · exact .more (ih h2) h1 h3
theorem Vd_mono {i : Nat} : ∀ d k, Vd N n i d k → Vd N n i (d + 1) k
  | 0, _, h => h.elim
  | d + 1, _, h => ⟨h.1, h.2.elim .inl fun ⟨j, h1, h2⟩ => .inr ⟨j, Vd_mono d j h1, h2⟩⟩
theorem Vd_fix {i d : Nat} (h : ∀ k, Vd N n i (d + 1) k → Vd N n i d k) {k : Nat} (hr : Rch N n i k) : Vd N n i d k := by
  induction hr with
  | one h1 h2 => exact h _ ⟨h1, .inl h2⟩
  | more _ h1 h2 ih => exact h _ ⟨h1, .inr ⟨_, ih, h2⟩⟩
open Classical in
theorem Vd_grow {i : Nat} : ∀ d, (∀ k, Rch N n i k → Vd N n i d k) ∨ d ≤ ((List.range n).filter fun k => decide (Vd N n i d k)).length
  | 0 => .inr (Nat.zero_le _)
  | d + 1 => by
    rcases Vd_grow (i := i) d with h | h
    · exact .inl fun k hk => Vd_mono d k (h k hk)
    · by_cases hf : ∀ k, Vd N n i (d + 1) k → Vd N n i d k
      · exact .inl fun k hk => Vd_mono d k (Vd_fix hf hk)
      · obtain ⟨k, hk⟩ := Classical.not_forall.1 hf
        obtain ⟨h1, h2⟩ := Classical.not_imp.1 hk
        have h3 := flen_lt (p := fun k => decide (Vd N n i d k)) (q := fun k => decide (Vd N n i (d + 1) k)) (List.range n) (fun x _ hx => decide_eq_true (Vd_mono d x (of_decide_eq_true hx))) ⟨k, List.mem_range.2 (Vd_lt _ h1), decide_eq_true h1, fun h => h2 (of_decide_eq_true h)⟩
        exact .inr (by omega)
open Classical in
theorem Vd_all {i k : Nat} (hr : Rch N n i k) : Vd N n i (n + 1) k := by
  rcases Vd_grow (N := N) (n := n) (i := i) (n + 1) with h | h
  · exact h k hr
  · have h2 := List.length_filter_le (fun k => decide (Vd N n i (n + 1) k)) (List.range n)
    rw [List.length_range] at h2
    omega
/-- The same, by the first turn. -/
def Wd (N : Nat → Nat → Int) (n : Nat) : Nat → Nat → Nat → Prop
  | 0, _, _ => False
  | d + 1, i, k => ∃ j, j < n ∧ 0 < N i j ∧ (k = j ∨ Wd N n d j k)
theorem Wd_more : ∀ d i j k, Wd N n d i j → k < n → 0 < N j k → Wd N n (d + 1) i k
  | d + 1, i, j, k, ⟨l, h1, h2, h3⟩, hk, hp => by
    rcases h3 with rfl | h3
    · exact ⟨j, h1, h2, .inr ⟨k, hk, hp, .inl rfl⟩⟩
    · exact ⟨l, h1, h2, .inr (Wd_more d l j k h3 hk hp)⟩
theorem Vd_Wd {i : Nat} : ∀ d k, Vd N n i d k → Wd N n d i k
  | d + 1, k, ⟨h1, h2⟩ => by
    rcases h2 with h2 | ⟨j, h2, h3⟩
    · exact ⟨k, h1, h2, .inl rfl⟩
    · exact Wd_more d i j k (Vd_Wd d j h2) h1 h3
theorem Wd_bt : ∀ d i k, i < n → Wd N n d i k → bt (ld3 N n d) i k
  | d + 1, i, k, hi, ⟨j, h1, h2, h3⟩ => by
    have h := ld2_step (N := N) (v := ld3 N n d) h1 h2 n (by rw [ld3_len]; exact Nat.le_refl _) hi
    rcases h3 with rfl | h3
    · exact h.1
    · exact h.2 k (Wd_bt d j k h1 h3)
theorem ld3_bt {i k : Nat} (hi : i < n) : (nat (ld3 N n (n + 1)) i).testBit k = true ↔ Rch N n i k := ⟨fun h => ld3_snd (n + 1) i k hi h, fun h => Wd_bt (n + 1) i k hi (Vd_Wd (n + 1) k (Vd_all h))⟩
open Classical in
theorem lst_rch (hn : n ≤ 4) {i : Nat} (hi : i < n) : lst (nat (ld3 N n (n + 1)) i) n = rchL N n i := by
  have h1 : ∀ k, (nat (ld3 N n (n + 1)) i).testBit k = decide (Rch N n i k) := fun k => by
    rw [Bool.eq_iff_iff, ld3_bt hi, decide_eq_true_eq]
  have h2 : ∀ k, n ≤ k → ¬ Rch N n i k := fun k hk h => by
    have := h.lt
    omega
  have h3 : ∀ m, n ≤ m → lst (nat (ld3 N n (n + 1)) i) n = lst (nat (ld3 N n (n + 1)) i) m := fun m hm => by
    induction m with
    | zero => rw [Nat.le_zero.1 hm]
    | succ m ih =>
      by_cases e : n = m + 1
      · rw [e]
      · rw [ih (by omega)]
        unfold lst
        rw [List.range_succ, List.filter_append, List.map_append, List.filter_cons, if_neg (by rw [h1, decide_eq_true_eq]; exact h2 m (by omega))]
        simp
  rw [h3 4 hn]
  unfold lst rchL
  rw [show ([0, 1, 2, 3] : List Int) = (List.range 4).map Int.ofNat from rfl, List.filter_map]
  congr 1
  refine List.filter_congr fun k _ => ?_
  rw [h1]
  rfl
open Classical in
/-- By bits: the same parts. -/
theorem rpt_parts (hn : n ≤ 4) (hmv : ∀ i, i < n → ∃ k, k < n ∧ 0 < N i k) : ∀ m, m ≤ n → (rpt (ld3 N n (n + 1)) n m).1 = partsL N n m ∧ ∀ k, (rpt (ld3 N n (n + 1)) n m).2.testBit k = true ↔ ∃ y, y < m ∧ isPart N n y ∧ Rch N n y k
  | 0, _ => ⟨rfl, fun k => ⟨fun h => by simp [rpt] at h, fun ⟨y, h, _⟩ => absurd h (Nat.not_lt_zero y)⟩⟩
  | m + 1, hm => by
    have ih := rpt_parts hn hmv m (by omega)
    have hcl : clo (ld3 N n (n + 1)) m n ↔ ∀ k, Rch N n m k → Rch N n k m := ⟨fun h k hk => (ld3_bt hk.lt).1 (h k hk.lt ((ld3_bt hm).2 hk)), fun h k hk hb => (ld3_bt hk).2 (h k ((ld3_bt hm).1 hb))⟩
    have hiff : (clo (ld3 N n (n + 1)) m n ∧ ¬ (rpt (ld3 N n (n + 1)) n m).2.testBit m = true) ↔ isPart N n m := by
      rw [hcl, ih.2 m]
      constructor
      · rintro ⟨h1, h2⟩
        obtain ⟨y, h3, h4, h5⟩ := min_part hn (hmv m hm) h1
        have hmm : Rch N n m m := by
          obtain ⟨k, hk, hp⟩ := hmv m hm
          exact (Rch.one hk hp).trans (h1 k (.one hk hp))
        have h6 := h5 m hmm
        by_cases e : y = m
        · subst e; exact h3
        · exact absurd ⟨y, by omega, h3, h4⟩ h2
      · intro h
        have hr := h.1
        have hmm := (rchL_mem hn).1 h.2
        have hc : ∀ k, Rch N n m k → Rch N n k m := fun k hk => by
          have h1 := (hr (k : Int) ((rchL_mem hn).2 hk)).2
          rw [Int.toNat_natCast] at h1
          exact (rchL_iff hn h1 m).2 hmm
        refine ⟨hc, fun ⟨y, h1, h2, h3⟩ => ?_⟩
        have h4 := (h2.1 (m : Int) ((rchL_mem hn).2 h3)).2
        rw [Int.toNat_natCast] at h4
        have h5 := (rchL_iff hn h4 y).2 ((rchL_mem hn).1 h2.2)
        have h6 := (hr (y : Int) ((rchL_mem hn).2 h5)).1
        omega
    by_cases h : isPart N n m
    · obtain ⟨h1, h2⟩ := hiff.2 h
      rw [rpt_yes h1 h2, partsL_yes h]
      refine ⟨by rw [ih.1, lst_rch hn hm], fun k => ?_⟩
      rw [Nat.testBit_or, Bool.or_eq_true, ih.2 k, ld3_bt hm]
      constructor
      · rintro (⟨y, h3, h4⟩ | h3)
        · exact ⟨y, by omega, h4⟩
        · exact ⟨m, by omega, h, h3⟩
      · rintro ⟨y, h3, h4, h5⟩
        by_cases e : y = m
        · subst e; exact .inr h5
        · exact .inl ⟨y, by omega, h4, h5⟩
    · rw [rpt_no fun h' => h (hiff.1 h'), partsL_no h]
      refine ⟨ih.1, fun k => (ih.2 k).trans ⟨fun ⟨y, h3, h4⟩ => ⟨y, by omega, h4⟩, fun ⟨y, h3, h4, h5⟩ => ?_⟩⟩
      by_cases e : y = m
      · subst e; exact absurd h4 h
      · exact ⟨y, by omega, h4, h5⟩
end
end Go.Proofs.YtibmpjhffeinoaaGreat

namespace Go.Proofs.YtibmpjhffeinoaaGreat
open Go.RowKit

theorem sum_perm {xs ys : List Int} (h : xs.Perm ys) : xs.sum = ys.sum := by
  induction h with
  | nil => rfl
  | cons x _ ih => rw [List.sum_cons, List.sum_cons, ih]
  | swap x y l => simp only [List.sum_cons]; omega
  | trans _ _ h1 h2 => exact h1.trans h2
section
variable {N : Nat → Nat → Int} {n : Nat}
open Classical in
theorem part_iff {m : Nat} {L : List Int} : L ∈ partsL N n m ↔ ∃ y, y < m ∧ isPart N n y ∧ L = rchL N n y := by
  unfold partsL
  rw [List.mem_map]
  constructor
  · rintro ⟨y, h, rfl⟩
    rw [List.mem_filter, List.mem_range, decide_eq_true_eq] at h
    exact ⟨y, h.1, h.2, rfl⟩
  · rintro ⟨y, h1, h2, rfl⟩
    exact ⟨y, by rw [List.mem_filter, List.mem_range, decide_eq_true_eq]; exact ⟨h1, h2⟩, rfl⟩
theorem part_mem (hn : n ≤ 4) {m : Nat} {L : List Int} (hL : L ∈ partsL N n m) {i : Nat} (hi : (i : Int) ∈ L) : L = rchL N n i ∧ Rch N n i i := by
  obtain ⟨y, _, h2, rfl⟩ := part_iff.1 hL
  have h3 := (h2.1 _ hi).2
  rw [Int.toNat_natCast] at h3
  exact ⟨h3.symm, by rw [← rchL_mem hn, h3]; exact hi⟩
theorem part_nat {m : Nat} {L : List Int} (hL : L ∈ partsL N n m) {x : Int} (hx : x ∈ L) : ∃ k : Nat, x = k ∧ k < n := by
  obtain ⟨y, _, _, rfl⟩ := part_iff.1 hL
  obtain ⟨k, h1, h2⟩ := rchL_of hx
  exact ⟨k, h1, h2.lt⟩
theorem part_clo (hn : n ≤ 4) {m : Nat} {L : List Int} (hL : L ∈ partsL N n m) {i j : Nat} (hi : (i : Int) ∈ L) (hr : Rch N n i j) : (j : Int) ∈ L := by
  rw [(part_mem hn hL hi).1, rchL_mem hn]
  exact hr
theorem part_len {m : Nat} {L : List Int} (hL : L ∈ partsL N n m) : L.length ≤ 4 := by
  obtain ⟨y, _, _, rfl⟩ := part_iff.1 hL
  exact rchL_len y
theorem part_eq (hn : n ≤ 4) {m : Nat} {L L' : List Int} (hL : L ∈ partsL N n m) (hL' : L' ∈ partsL N n m) {i : Nat} (hi : (i : Int) ∈ L) (hi' : (i : Int) ∈ L') : L = L' := by
  rw [(part_mem hn hL hi).1, (part_mem hn hL' hi').1]
open Classical in
theorem parts_ne : ∀ m, (partsL N n m).Pairwise fun L L' => ∀ x ∈ L, ∀ y ∈ L', x ≠ y := fun m => by
  unfold partsL
  rw [List.pairwise_map]
  refine List.Pairwise.imp_of_mem ?_ (List.Pairwise.filter _ (List.pairwise_lt_range (n := m)))
  intro a b ha hb hab x hx y hy e
  subst e
  rw [List.mem_filter, decide_eq_true_eq] at ha hb
  have h1 := (ha.2.1 x hx).2
  have h2 := (hb.2.1 x hy).2
  have h3 : (a : Int) ∈ rchL N n b := by
    rw [← h2, h1]
    exact ha.2.2
  have h4 := (hb.2.1 _ h3).1
  omega
theorem flat_nodup (m : Nat) : (partsL N n m).flatten.Nodup := by
  unfold List.Nodup
  rw [List.pairwise_flatten]
  refine ⟨fun L hL => ?_, parts_ne m⟩
  obtain ⟨y, _, _, rfl⟩ := part_iff.1 hL
  exact rchL_nodup y
theorem reach_part (hn : n ≤ 4) (hmv : ∀ i, i < n → ∃ k, k < n ∧ 0 < N i k) {i : Nat} (hi : i < n) : ∃ L ∈ partsL N n n, ∃ j : Nat, (j : Int) ∈ L ∧ Rch N n i j := by
  obtain ⟨y, h1, h2⟩ := to_part hn hmv _ i hi (Nat.le_refl _)
  exact ⟨_, part_iff.2 ⟨y, h2.lt, h1, rfl⟩, y, h1.2, h2⟩
theorem woL_nodup (xs : List Int) (m : Nat) : (woL xs m).Nodup := by
  unfold woL
  refine List.Nodup.sublist List.filter_sublist ?_
  unfold List.Nodup
  rw [List.pairwise_map]
  refine List.Pairwise.imp ?_ (List.pairwise_lt_range (n := m))
  intro a b hab e
  have : (a : Int) = (b : Int) := e
  omega
theorem all_perm : (opL (partsL N n n) n ++ (partsL N n n).flatten).Perm ((List.range n).map Int.ofNat) := by
  rw [List.perm_ext_iff_of_nodup]
  · intro x
    unfold opL
    rw [List.mem_append, woL_mem, List.mem_map]
    constructor
    · rintro (⟨⟨k, h1, h2⟩, _⟩ | h)
      · exact ⟨k, List.mem_range.2 h2, h1.symm⟩
      · obtain ⟨L, hL, hx⟩ := List.mem_flatten.1 h
        obtain ⟨k, h1, h2⟩ := part_nat hL hx
        exact ⟨k, List.mem_range.2 h2, h1.symm⟩
    · rintro ⟨k, h1, rfl⟩
      by_cases h : Int.ofNat k ∈ (partsL N n n).flatten
      · exact .inr h
      · exact .inl ⟨⟨k, rfl, List.mem_range.1 h1⟩, h⟩
  · rw [List.nodup_append]
    refine ⟨woL_nodup _ _, flat_nodup n, fun a ha b hb e => ?_⟩
    subst e
    exact (woL_mem.1 ha).2 hb
  · unfold List.Nodup
    rw [List.pairwise_map]
    refine List.Pairwise.imp ?_ (List.pairwise_lt_range (n := n))
    intro a b hab e
    have : (a : Int) = (b : Int) := e
    omega
theorem op_len : (opL (partsL N n n) n).length + (partsL N n n).flatten.length = n := by
  have h := (all_perm (N := N) (n := n)).length_eq
  rw [List.length_append, List.length_map, List.length_range] at h
  exact h
/-- Where a state leads to, in all. -/
theorem row_split (x : Nat) : ((List.range n).map fun k => N x k).sum = ((opL (partsL N n n) n).map fun y => N x y.toNat).sum + colv N (partsL N n n).flatten x := by
  have h := sum_perm ((all_perm (N := N) (n := n)).map fun y => N x y.toNat)
  rw [List.map_append, List.sum_append_int, List.map_map] at h
  unfold colv
  rw [Int.toNat_natCast]
  exact h.symm
theorem colv_append (A B : List Int) (x : Int) : colv N (A ++ B) x = colv N A x + colv N B x := by
  unfold colv
  rw [List.map_append, List.sum_append_int]
theorem colv_nn {A : List Int} {x : Int} : (∀ y ∈ A, 0 ≤ N x.toNat y.toNat) → 0 ≤ colv N A x := fun h => by
  unfold colv
  induction A with
  | nil => exact Int.le_refl _
  | cons y A ih =>
    rw [List.map_cons, List.sum_cons]
    have h1 := h y (List.mem_cons_self)
    have h2 := ih fun z hz => h z (List.mem_cons_of_mem _ hz)
    omega
theorem colv_zero {A : List Int} {x : Int} (h : ∀ y ∈ A, N x.toNat y.toNat = 0) : colv N A x = 0 := by
  unfold colv
  induction A with
  | nil => rfl
  | cons y A ih =>
    rw [List.map_cons, List.sum_cons, h y (List.mem_cons_self), ih fun z hz => h z (List.mem_cons_of_mem _ hz)]
    rfl
theorem colv_pos {A : List Int} {x : Int} (h : ∀ y ∈ A, 0 ≤ N x.toNat y.toNat) : 0 < colv N A x ↔ ∃ y ∈ A, 0 < N x.toNat y.toNat := by
  constructor
  · intro hp
    refine Classical.byContradiction fun hn => ?_
    rw [colv_zero fun y hy => ?_] at hp
    · exact absurd hp (by decide)
    · have h1 := h y hy
      by_cases h2 : 0 < N x.toNat y.toNat
      · exact absurd ⟨y, hy, h2⟩ hn
      · omega
  · rintro ⟨y, hy, hp⟩
    obtain ⟨A1, A2, rfl⟩ := List.append_of_mem hy
    rw [colv_append]
    have h1 := colv_nn (N := N) (A := A1) (x := x) fun z hz => h z (List.mem_append_left _ hz)
    have h2 := colv_nn (N := N) (A := A2) (x := x) fun z hz => h z (List.mem_append_right _ (List.mem_cons_of_mem _ hz))
    have h3 : colv N (y :: A2) x = N x.toNat y.toNat + colv N A2 x := by
      unfold colv
      rw [List.map_cons, List.sum_cons]
    omega
/-- A part, and the others. -/
theorem flat_split {P : List (List Int)} {p : Nat} {part : List Int} (h : P[p]? = some part) : P.flatten = (P.take p).flatten ++ (part ++ (P.drop (p + 1)).flatten) := by
  have h1 : P = P.take p ++ part :: P.drop (p + 1) := by
    obtain ⟨hp, h2⟩ := List.getElem?_eq_some_iff.1 h
    rw [← h2, List.getElem_cons_drop, List.take_append_drop]
  conv => lhs; rw [h1]
  rw [List.flatten_append, List.flatten_cons]
end
end Go.Proofs.YtibmpjhffeinoaaGreat

namespace Go.Proofs.YtibmpjhffeinoaaGreat
open Go.RowKit

theorem det1 (a : Int) : det 1 [[a]] = a := by simp [det, dsum, sgn, nth]
theorem det2 (a b c d : Int) : det 2 [[a, b], [c, d]] = a * d - b * c := by
  simp [det, dsum, sgn, nth, minor]
  grind
theorem det3 (a b c d e f g h i : Int) : det 3 [[a, b, c], [d, e, f], [g, h, i]] = a * (e * i - f * h) - b * (d * i - f * g) + c * (d * h - e * g) := by
  simp [det, dsum, sgn, nth, minor]
  grind
theorem forest2 (x y r1 r2 : Int) : (x + r1) * (y + r2) - (0 - x) * (0 - y) = x * r2 + r1 * y + r1 * r2 := by grind
theorem forest3 (a b c d e f r s t : Int) : (a + b + r) * ((c + d + s) * (e + f + t) - (0 - d) * (0 - f)) - (0 - a) * ((0 - c) * (e + f + t) - (0 - d) * (0 - e)) + (0 - b) * ((0 - c) * (0 - f) - (c + d + s) * (0 - e)) =
    r * s * t + r * s * e + r * s * f + r * c * t + r * d * t + a * s * t + b * s * t + r * c * e + r * c * f + r * d * e + a * s * f + a * s * e + b * s * f + b * d * t + b * c * t + a * d * t := by grind
theorem forest_key : ∀ a b c d e f r s t : Bool, (r || a || b) = true → (s || c || d) = true → (t || e || f) = true → (r || s || b || d) = true → (r || t || a || f) = true → (s || t || c || e) = true → (r || s || t) = true →
    ((r && s && t) || (r && s && e) || (r && s && f) || (r && c && t) || (r && d && t) || (a && s && t) || (b && s && t) || (r && c && e) || (r && c && f) || (r && d && e) || (a && s && f) || (a && s && e) || (b && s && f) || (b && d && t) || (b && c && t) || (a && d && t)) = true := by decide +kernel
theorem mul3_pos {x y z : Int} (hx : 0 ≤ x) (hy : 0 ≤ y) (hz : 0 ≤ z) : 0 ≤ x * y * z ∧ ((decide (0 < x) && decide (0 < y) && decide (0 < z)) = true → 0 < x * y * z) := by
  refine ⟨Int.mul_nonneg (Int.mul_nonneg hx hy) hz, fun h => ?_⟩
  rw [Bool.and_eq_true, Bool.and_eq_true, decide_eq_true_eq, decide_eq_true_eq, decide_eq_true_eq] at h
  exact Int.mul_pos (Int.mul_pos h.1.1 h.1.2) h.2
theorem forest3_pos {a b c d e f r s t : Int} (ha : 0 ≤ a) (hb : 0 ≤ b) (hc : 0 ≤ c) (hd : 0 ≤ d) (he : 0 ≤ e) (hf : 0 ≤ f) (hr : 0 ≤ r) (hs : 0 ≤ s) (ht : 0 ≤ t)
    (h1 : 0 < r ∨ 0 < a ∨ 0 < b) (h2 : 0 < s ∨ 0 < c ∨ 0 < d) (h3 : 0 < t ∨ 0 < e ∨ 0 < f) (h4 : 0 < r ∨ 0 < s ∨ 0 < b ∨ 0 < d) (h5 : 0 < r ∨ 0 < t ∨ 0 < a ∨ 0 < f) (h6 : 0 < s ∨ 0 < t ∨ 0 < c ∨ 0 < e) (h7 : 0 < r ∨ 0 < s ∨ 0 < t) :
    0 < r * s * t + r * s * e + r * s * f + r * c * t + r * d * t + a * s * t + b * s * t + r * c * e + r * c * f + r * d * e + a * s * f + a * s * e + b * s * f + b * d * t + b * c * t + a * d * t := by
  have key := forest_key (decide (0 < a)) (decide (0 < b)) (decide (0 < c)) (decide (0 < d)) (decide (0 < e)) (decide (0 < f)) (decide (0 < r)) (decide (0 < s)) (decide (0 < t))
    (by simp only [Bool.or_eq_true, decide_eq_true_eq]; omega) (by simp only [Bool.or_eq_true, decide_eq_true_eq]; omega) (by simp only [Bool.or_eq_true, decide_eq_true_eq]; omega) (by simp only [Bool.or_eq_true, decide_eq_true_eq]; omega)
    (by simp only [Bool.or_eq_true, decide_eq_true_eq]; omega) (by simp only [Bool.or_eq_true, decide_eq_true_eq]; omega) (by simp only [Bool.or_eq_true, decide_eq_true_eq]; omega)
  have p1 := mul3_pos hr hs ht
  have p2 := mul3_pos hr hs he
  have p3 := mul3_pos hr hs hf
  have p4 := mul3_pos hr hc ht
  have p5 := mul3_pos hr hd ht
  have p6 := mul3_pos ha hs ht
  have p7 := mul3_pos hb hs ht
  have p8 := mul3_pos hr hc he
  have p9 := mul3_pos hr hc hf
  have p10 := mul3_pos hr hd he
  have p11 := mul3_pos ha hs hf
  have p12 := mul3_pos ha hs he
  have p13 := mul3_pos hb hs hf
  have p14 := mul3_pos hb hd ht
  have p15 := mul3_pos hb hc ht
  have p16 := mul3_pos ha hd ht
  rw [Bool.or_eq_true, Bool.or_eq_true, Bool.or_eq_true, Bool.or_eq_true, Bool.or_eq_true, Bool.or_eq_true, Bool.or_eq_true, Bool.or_eq_true, Bool.or_eq_true, Bool.or_eq_true, Bool.or_eq_true, Bool.or_eq_true, Bool.or_eq_true, Bool.or_eq_true, Bool.or_eq_true] at key
  rcases key with ((((((((((((((h | h) | h) | h) | h) | h) | h) | h) | h) | h) | h) | h) | h) | h) | h) | h
  · have := p1.2 h; omega
  · have := p2.2 h; omega
  · have := p3.2 h; omega
  · have := p4.2 h; omega
  · have := p5.2 h; omega
  · have := p6.2 h; omega
  · have := p7.2 h; omega
  · have := p8.2 h; omega
  · have := p9.2 h; omega
  · have := p10.2 h; omega
  · have := p11.2 h; omega
  · have := p12.2 h; omega
  · have := p13.2 h; omega
  · have := p14.2 h; omega
  · have := p15.2 h; omega
  · have := p16.2 h; omega
/-- A column of what leads out: the same. -/
theorem cramer1 (a b c d e f r s t : Int) : r * ((c + d + s) * (e + f + t) - (0 - d) * (0 - f)) - (0 - a) * (s * (e + f + t) - (0 - d) * t) + (0 - b) * (s * (0 - f) - (c + d + s) * t) = (a + b + r) * ((c + d + s) * (e + f + t) - (0 - d) * (0 - f)) - (0 - a) * ((0 - c) * (e + f + t) - (0 - d) * (0 - e)) + (0 - b) * ((0 - c) * (0 - f) - (c + d + s) * (0 - e)) := by grind
theorem cramer2 (a b c d e f r s t : Int) : (a + b + r) * (s * (e + f + t) - (0 - d) * t) - r * ((0 - c) * (e + f + t) - (0 - d) * (0 - e)) + (0 - b) * ((0 - c) * t - s * (0 - e)) = (a + b + r) * ((c + d + s) * (e + f + t) - (0 - d) * (0 - f)) - (0 - a) * ((0 - c) * (e + f + t) - (0 - d) * (0 - e)) + (0 - b) * ((0 - c) * (0 - f) - (c + d + s) * (0 - e)) := by grind
theorem cramer3 (a b c d e f r s t : Int) : (a + b + r) * ((c + d + s) * t - s * (0 - f)) - (0 - a) * ((0 - c) * t - s * (0 - e)) + r * ((0 - c) * (0 - f) - (c + d + s) * (0 - e)) = (a + b + r) * ((c + d + s) * (e + f + t) - (0 - d) * (0 - f)) - (0 - a) * ((0 - c) * (e + f + t) - (0 - d) * (0 - e)) + (0 - b) * ((0 - c) * (0 - f) - (c + d + s) * (0 - e)) := by grind
end Go.Proofs.YtibmpjhffeinoaaGreat

namespace Go.Proofs.YtibmpjhffeinoaaGreat
open Go.RowKit

section
variable {N : Nat → Nat → Int} {n : Nat} {part : List Int} {p : Nat}
/-- What leads out of the open states. -/
noncomputable def outs (N : Nat → Nat → Int) (n : Nat) (i : Nat) : Int := colv N (partsL N n n).flatten (i : Int)
theorem flat_nat {x : Int} (hx : x ∈ (partsL N n n).flatten) : ∃ k : Nat, x = k ∧ k < n := by
  obtain ⟨L, hL, h⟩ := List.mem_flatten.1 hx
  exact part_nat hL h
theorem col_b {A : List Int} (hA : ∀ x ∈ A, ∃ k : Nat, x = k ∧ k < n) (hN : ∀ i k, i < n → k < n → 0 ≤ N i k) {i : Nat} (hi : i < n) : ∀ y ∈ A, 0 ≤ N ((i : Int)).toNat y.toNat := fun y hy => by
  obtain ⟨k, rfl, hk⟩ := hA y hy
  rw [Int.toNat_natCast, Int.toNat_natCast]
  exact hN i k hi hk
theorem outs_nn (hN : ∀ i k, i < n → k < n → 0 ≤ N i k) {i : Nat} (hi : i < n) : 0 ≤ outs N n i := colv_nn (col_b (fun _ h => flat_nat h) hN hi)
theorem outs_pos (hN : ∀ i k, i < n → k < n → 0 ≤ N i k) {i : Nat} (hi : i < n) {l : Nat} (hl : (l : Int) ∈ (partsL N n n).flatten) (hp : 0 < N i l) : 0 < outs N n i := (colv_pos (col_b (fun _ h => flat_nat h) hN hi)).2 ⟨l, hl, by rw [Int.toNat_natCast, Int.toNat_natCast]; exact hp⟩
/-- Open states are left. -/
theorem goes_out (hn : n ≤ 4) (hmv : ∀ i, i < n → ∃ k, k < n ∧ 0 < N i k) (Z : Nat → Prop) {i : Nat} (hi : i < n) (hz : Z i) (hZ : ∀ k, Z k → (k : Int) ∉ (partsL N n n).flatten) : ∃ k l, Z k ∧ l < n ∧ 0 < N k l ∧ ¬ Z l := by
  refine Classical.byContradiction fun h => ?_
  obtain ⟨L, hL, j, hj, hr⟩ := reach_part hn hmv hi
  exact hZ j (hr.stays Z hz fun k l hk hl hp => Classical.byContradiction fun hc => h ⟨k, l, hk, hl, hp, hc⟩) (List.mem_flatten.2 ⟨L, hL, hj⟩)
theorem part_of (hp : (partsL N n n)[p]? = some part) : part ∈ partsL N n n := List.mem_of_getElem? hp
theorem part_flat (hp : (partsL N n n)[p]? = some part) {x : Int} (hx : x ∈ part) : x ∈ (partsL N n n).flatten := List.mem_flatten.2 ⟨part, part_of hp, hx⟩
/-- No other part is led to. -/
theorem only_eq (hp : (partsL N n n)[p]? = some part) {i : Nat} (hi : i < n) (hN : ∀ i k, i < n → k < n → 0 ≤ N i k) (ho : ∀ j : Nat, (j : Int) ∈ (partsL N n n).flatten → 0 < N i j → (j : Int) ∈ part) : colv N part i = outs N n i := by
  unfold outs
  have hs := flat_split hp
  have hnd := flat_nodup (N := N) (n := n) n
  have hz : ∀ A : List Int, (∀ y ∈ A, y ∈ (partsL N n n).flatten ∧ y ∉ part) → colv N A i = 0 := fun A hA => colv_zero fun y hy => by
    obtain ⟨h1, h2⟩ := hA y hy
    obtain ⟨k, rfl, hk⟩ := flat_nat h1
    rw [Int.toNat_natCast, Int.toNat_natCast]
    have h3 := hN i k hi hk
    by_cases h4 : 0 < N i k
    · exact absurd (ho k h1 h4) h2
    · omega
  rw [hs] at hnd
  rw [List.nodup_append] at hnd
  obtain ⟨_, h2, h3⟩ := hnd
  rw [List.nodup_append] at h2
  rw [hs, colv_append, colv_append, hz _ fun y hy => ⟨by rw [hs]; exact List.mem_append_left _ hy, fun hc => h3 y hy y (List.mem_append_left _ hc) rfl⟩, hz _ fun y hy => ⟨by rw [hs]; exact List.mem_append_right _ (List.mem_append_right _ hy), fun hc => h2.2.2 y hc y hy rfl⟩]
  omega
/-- Two open states: which part is reached. -/
theorem two_reach (hn : n ≤ 4) (hp : (partsL N n n)[p]? = some part) {u v : Nat} (hu : u < n) (hv : v < n) (hN : ∀ i k, i < n → k < n → 0 ≤ N i k) (hU : ∀ l, l < n → l = u ∨ l = v ∨ (l : Int) ∈ (partsL N n n).flatten) (hnu : (u : Int) ∉ (partsL N n n).flatten) (hnv : (v : Int) ∉ (partsL N n n).flatten) :
    (∃ j : Nat, (j : Int) ∈ part ∧ Rch N n u j) ↔ 0 < colv N part u ∨ (0 < N u v ∧ 0 < colv N part v) := by
  have hL := part_of hp
  have hcp : ∀ i, i < n → (0 < colv N part i ↔ ∃ j : Nat, (j : Int) ∈ part ∧ 0 < N i j) := fun i hi => by
    rw [colv_pos (col_b (fun _ h => part_nat hL h) hN hi)]
    constructor
    · rintro ⟨y, hy, h⟩
      obtain ⟨k, rfl, hk⟩ := part_nat hL hy
      rw [Int.toNat_natCast, Int.toNat_natCast] at h
      exact ⟨k, hy, h⟩
    · rintro ⟨j, hj, h⟩
      exact ⟨j, hj, by rw [Int.toNat_natCast, Int.toNat_natCast]; exact h⟩
  have hpn : ∀ j : Nat, (j : Int) ∈ part → j < n := fun j hj => by
    obtain ⟨k, h1, h2⟩ := part_nat hL hj
    omega
  constructor
  · rintro ⟨j, hj, hr⟩
    refine Classical.byContradiction fun hc => ?_
    have h1 : ¬ 0 < colv N part u := fun h => hc (.inl h)
    have h2 : 0 < N u v → ¬ 0 < colv N part v := fun h h' => hc (.inr ⟨h, h'⟩)
    rw [hcp u hu] at h1
    rw [hcp v hv] at h2
    have hz := hr.stays (fun l => l < n ∧ (l : Int) ∉ part ∧ (l = v → u = v ∨ 0 < N u v)) ⟨hu, fun h => hnu (part_flat hp h), fun h => .inl h⟩ ?_
    · exact hz.2.1 hj
    · rintro k l ⟨hk, hk1, hk2⟩ hl hpos
      refine ⟨hl, fun hlp => ?_, fun hlv => ?_⟩
      · rcases hU k hk with rfl | rfl | h
        · exact h1 ⟨l, hlp, hpos⟩
        · rcases hk2 rfl with rfl | h3
          · exact h1 ⟨l, hlp, hpos⟩
          · exact h2 h3 ⟨l, hlp, hpos⟩
        · obtain ⟨L, hL', hkL⟩ := List.mem_flatten.1 h
          have h3 := part_clo hn hL' hkL (.one hl hpos)
          exact hk1 (by rw [part_eq hn hL hL' hlp h3]; exact hkL)
      · subst hlv
        rcases hU k hk with rfl | rfl | h
        · exact .inr hpos
        · exact hk2 rfl
        · obtain ⟨L, hL', hkL⟩ := List.mem_flatten.1 h
          have h3 := part_clo hn hL' hkL (.one hl hpos)
          exact absurd (List.mem_flatten.2 ⟨L, hL', h3⟩) hnv
  · rintro (h | ⟨h1, h2⟩)
    · obtain ⟨j, hj, h⟩ := (hcp u hu).1 h
      exact ⟨j, hj, .one (hpn j hj) h⟩
    · obtain ⟨j, hj, h⟩ := (hcp v hv).1 h2
      exact ⟨j, hj, .cons h1 hv (.one (hpn j hj) h)⟩
end
end Go.Proofs.YtibmpjhffeinoaaGreat

namespace Go.Proofs.YtibmpjhffeinoaaGreat
open Go.RowKit

section
variable {N : Nat → Nat → Int} {n : Nat} {part : List Int} {p : Nat} {S : Int} {P : List (List Int)}
theorem tE_same (a : Nat) : tE S N (a : Int) (a : Int) = S - N a a := by
  unfold tE
  rw [if_pos rfl, Int.toNat_natCast]
theorem tE_ne {a b : Nat} (h : a ≠ b) : tE S N (a : Int) (b : Int) = 0 - N a b := by
  unfold tE
  rw [if_neg (by omega), Int.toNat_natCast, Int.toNat_natCast]
theorem idx_0 (a : Int) (l : List Int) : (idx (a :: l) a).toNat = 0 := by simp [idx, List.findIdx?_cons]
theorem idx_1 {a b : Int} (h : a ≠ b) (l : List Int) : (idx (a :: b :: l) b).toNat = 1 := by
  simp [idx, List.findIdx?_cons, h]
theorem idx_2 {a b c : Int} (h1 : a ≠ c) (h2 : b ≠ c) (l : List Int) : (idx (a :: b :: c :: l) c).toNat = 2 := by
  simp [idx, List.findIdx?_cons, h1, h2]
theorem den1 {a : Nat} (hU : opL P n = [(a : Int)]) : denL S N P n = S - N a a := by
  unfold denL
  rw [hU]
  show det 1 [[tE S N a a]] = _
  rw [det1, tE_same]
theorem num1 {a : Nat} (hU : opL P n = [(a : Int)]) (hp : P[p]? = some part) : numL S N P n a p = colv N part a := by
  unfold numL csL
  rw [hU, idx_0, hp]
  show det 1 [[colv N part a]] = _
  rw [det1]
theorem den2 {a b : Nat} (h : a ≠ b) (hU : opL P n = [(a : Int), (b : Int)]) : denL S N P n = (S - N a a) * (S - N b b) - (0 - N a b) * (0 - N b a) := by
  unfold denL
  rw [hU]
  show det 2 [[tE S N a a, tE S N a b], [tE S N b a, tE S N b b]] = _
  rw [det2, tE_same, tE_same, tE_ne h, tE_ne h.symm]
theorem num2a {a b : Nat} (h : a ≠ b) (hU : opL P n = [(a : Int), (b : Int)]) (hp : P[p]? = some part) : numL S N P n a p = colv N part a * (S - N b b) - (0 - N a b) * colv N part b := by
  unfold numL csL
  rw [hU, idx_0, hp]
  show det 2 [[colv N part a, tE S N a b], [colv N part b, tE S N b b]] = _
  rw [det2, tE_same, tE_ne h]
theorem num2b {a b : Nat} (h : a ≠ b) (hU : opL P n = [(a : Int), (b : Int)]) (hp : P[p]? = some part) : numL S N P n b p = (S - N a a) * colv N part b - colv N part a * (0 - N b a) := by
  unfold numL csL
  rw [hU, idx_1 (by omega), hp]
  show det 2 [[tE S N a a, colv N part a], [tE S N b a, colv N part b]] = _
  rw [det2, tE_same, tE_ne h.symm]
theorem den3 {a b c : Nat} (h1 : a ≠ b) (h2 : a ≠ c) (h3 : b ≠ c) (hU : opL P n = [(a : Int), (b : Int), (c : Int)]) : denL S N P n = (S - N a a) * ((S - N b b) * (S - N c c) - (0 - N b c) * (0 - N c b)) - (0 - N a b) * ((0 - N b a) * (S - N c c) - (0 - N b c) * (0 - N c a)) + (0 - N a c) * ((0 - N b a) * (0 - N c b) - (S - N b b) * (0 - N c a)) := by
  unfold denL
  rw [hU]
  show det 3 [[tE S N a a, tE S N a b, tE S N a c], [tE S N b a, tE S N b b, tE S N b c], [tE S N c a, tE S N c b, tE S N c c]] = _
  rw [det3, tE_same, tE_same, tE_same, tE_ne h1, tE_ne h2, tE_ne h3, tE_ne h1.symm, tE_ne h2.symm, tE_ne h3.symm]
theorem num3a {a b c : Nat} (h1 : a ≠ b) (h2 : a ≠ c) (h3 : b ≠ c) (hU : opL P n = [(a : Int), (b : Int), (c : Int)]) (hp : P[p]? = some part) : numL S N P n a p = colv N part a * ((S - N b b) * (S - N c c) - (0 - N b c) * (0 - N c b)) - (0 - N a b) * (colv N part b * (S - N c c) - (0 - N b c) * colv N part c) + (0 - N a c) * (colv N part b * (0 - N c b) - (S - N b b) * colv N part c) := by
  unfold numL csL
  rw [hU, idx_0, hp]
  show det 3 [[colv N part a, tE S N a b, tE S N a c], [colv N part b, tE S N b b, tE S N b c], [colv N part c, tE S N c b, tE S N c c]] = _
  rw [det3, tE_same, tE_same, tE_ne h1, tE_ne h2, tE_ne h3, tE_ne h3.symm]
theorem num3b {a b c : Nat} (h1 : a ≠ b) (h2 : a ≠ c) (h3 : b ≠ c) (hU : opL P n = [(a : Int), (b : Int), (c : Int)]) (hp : P[p]? = some part) : numL S N P n b p = (S - N a a) * (colv N part b * (S - N c c) - (0 - N b c) * colv N part c) - colv N part a * ((0 - N b a) * (S - N c c) - (0 - N b c) * (0 - N c a)) + (0 - N a c) * ((0 - N b a) * colv N part c - colv N part b * (0 - N c a)) := by
  unfold numL csL
  rw [hU, idx_1 (by omega), hp]
  show det 3 [[tE S N a a, colv N part a, tE S N a c], [tE S N b a, colv N part b, tE S N b c], [tE S N c a, colv N part c, tE S N c c]] = _
  rw [det3, tE_same, tE_same, tE_ne h2, tE_ne h3, tE_ne h1.symm, tE_ne h2.symm]
theorem num3c {a b c : Nat} (h1 : a ≠ b) (h2 : a ≠ c) (h3 : b ≠ c) (hU : opL P n = [(a : Int), (b : Int), (c : Int)]) (hp : P[p]? = some part) : numL S N P n c p = (S - N a a) * ((S - N b b) * colv N part c - colv N part b * (0 - N c b)) - (0 - N a b) * ((0 - N b a) * colv N part c - colv N part b * (0 - N c a)) + colv N part a * ((0 - N b a) * (0 - N c b) - (S - N b b) * (0 - N c a)) := by
  unfold numL csL
  rw [hU, idx_2 (by omega) (by omega), hp]
  show det 3 [[tE S N a a, tE S N a b, colv N part a], [tE S N b a, tE S N b b, colv N part b], [tE S N c a, tE S N c b, colv N part c]] = _
  rw [det3, tE_same, tE_same, tE_ne h1, tE_ne h1.symm, tE_ne h2.symm, tE_ne h3.symm]
/-- What is asked of a state. -/
def Fair (S : Int) (N : Nat → Nat → Int) (P : List (List Int)) (n : Nat) (part : List Int) (p i : Nat) : Prop := 0 ≤ numL S N P n i p ∧ (0 < numL S N P n i p ↔ ∃ j : Nat, (j : Int) ∈ part ∧ Rch N n i j) ∧ ((∀ j : Nat, (j : Int) ∈ P.flatten → Rch N n i j → (j : Int) ∈ part) → numL S N P n i p = denL S N P n)
theorem fair1 (hn : n ≤ 4) (hmv : ∀ i, i < n → ∃ k, k < n ∧ 0 < N i k) (hN : ∀ i k, i < n → k < n → 0 ≤ N i k) (hrow : ∀ x, x < n → ((List.range n).map fun k => N x k).sum = S) (hp : (partsL N n n)[p]? = some part) {a : Nat} (hU : opL (partsL N n n) n = [(a : Int)]) :
    0 < denL S N (partsL N n n) n ∧ Fair S N (partsL N n n) n part p a := by
  have ha := (woL_mem (m := n)).1 (show (a : Int) ∈ woL (partsL N n n).flatten n by unfold opL at hU; rw [hU]; simp)
  have han : a < n := by
    obtain ⟨⟨k, h1, h2⟩, _⟩ := ha
    omega
  have hcl : ∀ l, l < n → l = a ∨ (l : Int) ∈ (partsL N n n).flatten := fun l hl => by
    by_cases h : (l : Int) ∈ (partsL N n n).flatten
    · exact .inr h
    · have h2 : (l : Int) ∈ opL (partsL N n n) n := woL_mem.2 ⟨⟨l, rfl, hl⟩, h⟩
      rw [hU] at h2
      simp at h2
      exact .inl (by omega)
  have hr : N a a + outs N n a = S := by
    rw [← hrow a han, row_split a, hU]
    simp [outs]
  have ho := outs_nn hN han
  have ho2 : 0 < outs N n a := by
    obtain ⟨k, l, rfl, hl, hpos, hne⟩ := goes_out hn hmv (fun k => k = a) han rfl fun k hk => by subst hk; exact ha.2
    rcases hcl l hl with h | h
    · exact absurd h hne
    · exact outs_pos hN han h hpos
  have hden : denL S N (partsL N n n) n = outs N n a := by rw [den1 hU]; omega
  have hre := two_reach hn hp han han hN (fun l hl => (hcl l hl).elim .inl fun h => .inr (.inr h)) ha.2 ha.2
  have hcn : 0 ≤ colv N part (a : Int) := colv_nn (col_b (fun _ h => part_nat (part_of hp) h) hN han)
  refine ⟨by rw [hden]; exact ho2, ?_⟩
  unfold Fair
  rw [num1 hU hp, hden, hre]
  refine ⟨hcn, ⟨.inl, fun h => h.elim id fun h => h.2⟩, fun h => ?_⟩
  exact only_eq hp han hN fun j hj hpos => h j hj (.one (by obtain ⟨k, h1, h2⟩ := flat_nat hj; omega) hpos)
theorem two_law {x y r1 r2 c1 c2 : Int} (hx : 0 ≤ x) (hy : 0 ≤ y) (h1 : 0 ≤ r1) (h2 : 0 ≤ r2) (hc1 : 0 ≤ c1) (hc2 : 0 ≤ c2) (g1 : 0 < r1 ∨ 0 < x) (g2 : 0 < r2 ∨ 0 < y) (g3 : 0 < r1 ∨ 0 < r2) :
    0 < (x + r1) * (y + r2) - (0 - x) * (0 - y) ∧ 0 ≤ c1 * (y + r2) - (0 - x) * c2 ∧ (0 < c1 * (y + r2) - (0 - x) * c2 ↔ 0 < c1 ∨ (0 < x ∧ 0 < c2)) ∧ (c1 = r1 → (x = 0 ∨ c2 = r2) → c1 * (y + r2) - (0 - x) * c2 = (x + r1) * (y + r2) - (0 - x) * (0 - y)) := by
  have e1 := forest2 x y r1 r2
  have e2 : c1 * (y + r2) - (0 - x) * c2 = c1 * (y + r2) + x * c2 := by grind
  have p1 := Int.mul_nonneg hx h2
  have p2 := Int.mul_nonneg h1 hy
  have p3 := Int.mul_nonneg h1 h2
  have p4 := Int.mul_nonneg hc1 (show 0 ≤ y + r2 by omega)
  have p5 := Int.mul_nonneg hx hc2
  refine ⟨?_, by omega, ⟨fun h => ?_, fun h => ?_⟩, fun ha hb => ?_⟩
  · rw [e1]
    by_cases q1 : 0 < r1
    · rcases g2 with q2 | q2
      · have := Int.mul_pos q1 q2
        omega
      · have := Int.mul_pos q1 q2
        omega
    · have q2 : 0 < x := by omega
      have q3 : 0 < r2 := by omega
      have := Int.mul_pos q2 q3
      omega
  · refine Classical.byContradiction fun hc => ?_
    have q1 : c1 = 0 := by
      have : ¬ 0 < c1 := fun h => hc (.inl h)
      omega
    have q2 : x = 0 ∨ c2 = 0 := by
      by_cases q : 0 < x
      · have : ¬ 0 < c2 := fun h => hc (.inr ⟨q, h⟩)
        omega
      · omega
    rw [e2, q1] at h
    rcases q2 with rfl | rfl
    · simp at h
    · simp at h
  · rw [e2]
    rcases h with h | ⟨h, h'⟩
    · have := Int.mul_pos h (show 0 < y + r2 by omega)
      omega
    · have := Int.mul_pos h h'
      omega
  · rw [e2, e1, ha]
    rcases hb with rfl | rfl
    · grind
    · grind
theorem fair2 (hn : n ≤ 4) (hmv : ∀ i, i < n → ∃ k, k < n ∧ 0 < N i k) (hN : ∀ i k, i < n → k < n → 0 ≤ N i k) (hrow : ∀ x, x < n → ((List.range n).map fun k => N x k).sum = S) (hp : (partsL N n n)[p]? = some part) {a b : Nat} (hab : a ≠ b) (hU : opL (partsL N n n) n = [(a : Int), (b : Int)]) :
    0 < denL S N (partsL N n n) n ∧ Fair S N (partsL N n n) n part p a ∧ Fair S N (partsL N n n) n part p b := by
  have ha := (woL_mem (m := n)).1 (show (a : Int) ∈ woL (partsL N n n).flatten n by unfold opL at hU; rw [hU]; simp)
  have hb := (woL_mem (m := n)).1 (show (b : Int) ∈ woL (partsL N n n).flatten n by unfold opL at hU; rw [hU]; simp)
  have han : a < n := by
    obtain ⟨⟨k, h1, h2⟩, _⟩ := ha
    omega
  have hbn : b < n := by
    obtain ⟨⟨k, h1, h2⟩, _⟩ := hb
    omega
  have hcl : ∀ l, l < n → l = a ∨ l = b ∨ (l : Int) ∈ (partsL N n n).flatten := fun l hl => by
    by_cases h : (l : Int) ∈ (partsL N n n).flatten
    · exact .inr (.inr h)
    · have h2 : (l : Int) ∈ opL (partsL N n n) n := woL_mem.2 ⟨⟨l, rfl, hl⟩, h⟩
      rw [hU] at h2
      simp at h2
      omega
  have hra : S - N a a = N a b + outs N n a := by
    have h := hrow a han
    rw [row_split a, hU] at h
    simp [outs] at h ⊢
    omega
  have hrb : S - N b b = N b a + outs N n b := by
    have h := hrow b hbn
    rw [row_split b, hU] at h
    simp [outs] at h ⊢
    omega
  have hx := hN a b han hbn
  have hy := hN b a hbn han
  have hoa := outs_nn hN han
  have hob := outs_nn hN hbn
  have hca : 0 ≤ colv N part (a : Int) := colv_nn (col_b (fun _ h => part_nat (part_of hp) h) hN han)
  have hcb : 0 ≤ colv N part (b : Int) := colv_nn (col_b (fun _ h => part_nat (part_of hp) h) hN hbn)
  have g1 : 0 < outs N n a ∨ 0 < N a b := by
    obtain ⟨k, l, rfl, hl, hpos, hne⟩ := goes_out hn hmv (fun k => k = a) han rfl fun k hk => by subst hk; exact ha.2
    rcases hcl l hl with h | rfl | h
    · exact absurd h hne
    · exact .inr hpos
    · exact .inl (outs_pos hN han h hpos)
  have g2 : 0 < outs N n b ∨ 0 < N b a := by
    obtain ⟨k, l, rfl, hl, hpos, hne⟩ := goes_out hn hmv (fun k => k = b) hbn rfl fun k hk => by subst hk; exact hb.2
    rcases hcl l hl with rfl | h | h
    · exact .inr hpos
    · exact absurd h hne
    · exact .inl (outs_pos hN hbn h hpos)
  have g3 : 0 < outs N n a ∨ 0 < outs N n b := by
    obtain ⟨k, l, hk, hl, hpos, hne⟩ := goes_out hn hmv (fun k => k = a ∨ k = b) han (.inl rfl) fun k hk => hk.elim (fun e => e ▸ ha.2) fun e => e ▸ hb.2
    rcases hcl l hl with h | h | h
    · exact absurd (.inl h) hne
    · exact absurd (.inr h) hne
    · rcases hk with rfl | rfl
      · exact .inl (outs_pos hN han h hpos)
      · exact .inr (outs_pos hN hbn h hpos)
  have hre1 := two_reach hn hp han hbn hN hcl ha.2 hb.2
  have hre2 := two_reach hn hp hbn han hN (fun l hl => (hcl l hl).elim (fun h => .inr (.inl h)) fun h => h.elim .inl fun h => .inr (.inr h)) hb.2 ha.2
  have hfl : ∀ j : Nat, (j : Int) ∈ (partsL N n n).flatten → j < n := fun j hj => by
    obtain ⟨k, h1, h2⟩ := flat_nat hj
    omega
  have t1 := two_law hx hy hoa hob hca hcb g1 g2 g3
  have t2 := two_law hy hx hob hoa hcb hca g2 g1 g3.symm
  have hden : denL S N (partsL N n n) n = (N a b + outs N n a) * (N b a + outs N n b) - (0 - N a b) * (0 - N b a) := by rw [den2 hab hU, hra, hrb]
  have hden2 : (N b a + outs N n b) * (N a b + outs N n a) - (0 - N b a) * (0 - N a b) = (N a b + outs N n a) * (N b a + outs N n b) - (0 - N a b) * (0 - N b a) := by grind
  have hn2 : numL S N (partsL N n n) n b p = colv N part b * (N a b + outs N n a) - (0 - N b a) * colv N part a := by
    rw [num2b hab hU hp, hra]
    grind
  refine ⟨by rw [hden]; exact t1.1, ?_, ?_⟩
  · unfold Fair
    rw [num2a hab hU hp, hrb, hden, hre1]
    refine ⟨t1.2.1, t1.2.2.1, fun h => t1.2.2.2 ?_ ?_⟩
    · exact only_eq hp han hN fun j hj hpos => h j hj (.one (hfl j hj) hpos)
    · by_cases hx0 : 0 < N a b
      · exact .inr (only_eq hp hbn hN fun j hj hpos => h j hj (.cons hx0 hbn (.one (hfl j hj) hpos)))
      · exact .inl (by omega)
  · unfold Fair
    rw [hn2, hden, ← hden2, hre2]
    refine ⟨t2.2.1, t2.2.2.1, fun h => t2.2.2.2 ?_ ?_⟩
    · exact only_eq hp hbn hN fun j hj hpos => h j hj (.one (hfl j hj) hpos)
    · by_cases hx0 : 0 < N b a
      · exact .inr (only_eq hp han hN fun j hj hpos => h j hj (.cons hx0 han (.one (hfl j hj) hpos)))
      · exact .inl (by omega)
theorem fair3 (hn : n ≤ 4) (hmv : ∀ i, i < n → ∃ k, k < n ∧ 0 < N i k) (hN : ∀ i k, i < n → k < n → 0 ≤ N i k) (hrow : ∀ x, x < n → ((List.range n).map fun k => N x k).sum = S) (hp : (partsL N n n)[p]? = some part) {a b c : Nat} (h1 : a ≠ b) (h2 : a ≠ c) (h3 : b ≠ c) (hU : opL (partsL N n n) n = [(a : Int), (b : Int), (c : Int)]) :
    0 < denL S N (partsL N n n) n ∧ Fair S N (partsL N n n) n part p a ∧ Fair S N (partsL N n n) n part p b ∧ Fair S N (partsL N n n) n part p c := by
  have hm : ∀ x : Nat, (x : Int) ∈ [(a : Int), (b : Int), (c : Int)] → x < n ∧ (x : Int) ∉ (partsL N n n).flatten := fun x hx => by
    rw [← hU] at hx
    obtain ⟨⟨k, e1, e2⟩, e3⟩ := woL_mem.1 hx
    exact ⟨by omega, e3⟩
  obtain ⟨han, ha⟩ := hm a (by simp)
  obtain ⟨hbn, hb⟩ := hm b (by simp)
  obtain ⟨hcn, hc⟩ := hm c (by simp)
  have hcl : ∀ l, l < n → l = a ∨ l = b ∨ l = c ∨ (l : Int) ∈ (partsL N n n).flatten := fun l hl => by
    by_cases h : (l : Int) ∈ (partsL N n n).flatten
    · exact .inr (.inr (.inr h))
    · have h2 : (l : Int) ∈ opL (partsL N n n) n := woL_mem.2 ⟨⟨l, rfl, hl⟩, h⟩
      rw [hU] at h2
      simp at h2
      omega
  have hra : S - N a a = N a b + N a c + outs N n a := by
    have h := hrow a han
    rw [row_split a, hU] at h
    simp [outs] at h ⊢
    omega
  have hrb : S - N b b = N b a + N b c + outs N n b := by
    have h := hrow b hbn
    rw [row_split b, hU] at h
    simp [outs] at h ⊢
    omega
  have hrc : S - N c c = N c a + N c b + outs N n c := by
    have h := hrow c hcn
    rw [row_split c, hU] at h
    simp [outs] at h ⊢
    omega
  have hout : ∀ k l, k < n → l < n → 0 < N k l → l ≠ a → l ≠ b → l ≠ c → 0 < outs N n k := fun k l hk hl hpos e1 e2 e3 => by
    rcases hcl l hl with h | h | h | h
    · exact absurd h e1
    · exact absurd h e2
    · exact absurd h e3
    · exact outs_pos hN hk h hpos
  have g : ∀ Z : Nat → Prop, (∀ k, Z k → k = a ∨ k = b ∨ k = c) → (∃ k, Z k) → ∃ k l, Z k ∧ k < n ∧ 0 < N k l ∧ ¬ Z l ∧ (l = a ∨ l = b ∨ l = c ∨ 0 < outs N n k) := fun Z hZ ⟨k0, hk0⟩ => by
    have hlt : ∀ k, Z k → k < n ∧ (k : Int) ∉ (partsL N n n).flatten := fun k hk => by
      rcases hZ k hk with rfl | rfl | rfl
      · exact ⟨han, ha⟩
      · exact ⟨hbn, hb⟩
      · exact ⟨hcn, hc⟩
    obtain ⟨k, l, hk, hl, hpos, hne⟩ := goes_out hn hmv Z (hlt k0 hk0).1 hk0 fun k hk => (hlt k hk).2
    refine ⟨k, l, hk, (hlt k hk).1, hpos, hne, ?_⟩
    by_cases e1 : l = a
    · exact .inl e1
    by_cases e2 : l = b
    · exact .inr (.inl e2)
    by_cases e3 : l = c
    · exact .inr (.inr (.inl e3))
    exact .inr (.inr (.inr (hout k l (hlt k hk).1 hl hpos e1 e2 e3)))
  have k1 : 0 < outs N n a ∨ 0 < N a b ∨ 0 < N a c := by
    obtain ⟨k, l, rfl, _, hpos, hne, h⟩ := g (fun k => k = a) (fun k h => .inl h) ⟨a, rfl⟩
    rcases h with h | rfl | rfl | h
    · exact absurd h hne
    · exact .inr (.inl hpos)
    · exact .inr (.inr hpos)
    · exact .inl h
  have k2 : 0 < outs N n b ∨ 0 < N b a ∨ 0 < N b c := by
    obtain ⟨k, l, rfl, _, hpos, hne, h⟩ := g (fun k => k = b) (fun k h => .inr (.inl h)) ⟨b, rfl⟩
    rcases h with rfl | h | rfl | h
    · exact .inr (.inl hpos)
    · exact absurd h hne
    · exact .inr (.inr hpos)
    · exact .inl h
  have k3 : 0 < outs N n c ∨ 0 < N c a ∨ 0 < N c b := by
    obtain ⟨k, l, rfl, _, hpos, hne, h⟩ := g (fun k => k = c) (fun k h => .inr (.inr h)) ⟨c, rfl⟩
    rcases h with rfl | rfl | h | h
    · exact .inr (.inl hpos)
    · exact .inr (.inr hpos)
    · exact absurd h hne
    · exact .inl h
  have k4 : 0 < outs N n a ∨ 0 < outs N n b ∨ 0 < N a c ∨ 0 < N b c := by
    obtain ⟨k, l, hk, _, hpos, hne, h⟩ := g (fun k => k = a ∨ k = b) (fun k h => h.elim .inl fun h => .inr (.inl h)) ⟨a, .inl rfl⟩
    rcases h with h | h | rfl | h
    · exact absurd (.inl h) hne
    · exact absurd (.inr h) hne
    · rcases hk with rfl | rfl
      · exact .inr (.inr (.inl hpos))
      · exact .inr (.inr (.inr hpos))
    · rcases hk with rfl | rfl
      · exact .inl h
      · exact .inr (.inl h)
  have k5 : 0 < outs N n a ∨ 0 < outs N n c ∨ 0 < N a b ∨ 0 < N c b := by
    obtain ⟨k, l, hk, _, hpos, hne, h⟩ := g (fun k => k = a ∨ k = c) (fun k h => h.elim .inl fun h => .inr (.inr h)) ⟨a, .inl rfl⟩
    rcases h with h | rfl | h | h
    · exact absurd (.inl h) hne
    · rcases hk with rfl | rfl
      · exact .inr (.inr (.inl hpos))
      · exact .inr (.inr (.inr hpos))
    · exact absurd (.inr h) hne
    · rcases hk with rfl | rfl
      · exact .inl h
      · exact .inr (.inl h)
  have k6 : 0 < outs N n b ∨ 0 < outs N n c ∨ 0 < N b a ∨ 0 < N c a := by
    obtain ⟨k, l, hk, _, hpos, hne, h⟩ := g (fun k => k = b ∨ k = c) (fun k h => h.elim (fun h => .inr (.inl h)) fun h => .inr (.inr h)) ⟨b, .inl rfl⟩
    rcases h with rfl | h | h | h
    · rcases hk with rfl | rfl
      · exact .inr (.inr (.inl hpos))
      · exact .inr (.inr (.inr hpos))
    · exact absurd (.inl h) hne
    · exact absurd (.inr h) hne
    · rcases hk with rfl | rfl
      · exact .inl h
      · exact .inr (.inl h)
  have k7 : 0 < outs N n a ∨ 0 < outs N n b ∨ 0 < outs N n c := by
    obtain ⟨k, l, hk, _, hpos, hne, h⟩ := g (fun k => k = a ∨ k = b ∨ k = c) (fun k h => h) ⟨a, .inl rfl⟩
    rcases h with h | h | h | h
    · exact absurd (.inl h) hne
    · exact absurd (.inr (.inl h)) hne
    · exact absurd (.inr (.inr h)) hne
    · rcases hk with rfl | rfl | rfl
      · exact .inl h
      · exact .inr (.inl h)
      · exact .inr (.inr h)
  have hden : 0 < denL S N (partsL N n n) n := by
    rw [den3 h1 h2 h3 hU, hra, hrb, hrc, forest3]
    exact forest3_pos (hN a b han hbn) (hN a c han hcn) (hN b a hbn han) (hN b c hbn hcn) (hN c a hcn han) (hN c b hcn hbn) (outs_nn hN han) (outs_nn hN hbn) (outs_nn hN hcn) k1 k2 k3 k4 k5 k6 k7
  have hfl : (partsL N n n).flatten = part := by
    have hl := op_len (N := N) (n := n)
    rw [hU] at hl
    simp only [List.length_cons, List.length_nil] at hl
    have hs := flat_split hp
    have hpl : 0 < part.length := by
      obtain ⟨y, _, e1, e2⟩ := part_iff.1 (part_of hp)
      have e3 := e1.2
      rw [← e2] at e3
      exact List.length_pos_of_mem e3
    have hs2 := congrArg List.length hs
    rw [List.length_append, List.length_append] at hs2
    rw [hs, List.length_eq_zero_iff.1 (show ((partsL N n n).take p).flatten.length = 0 by omega), List.length_eq_zero_iff.1 (show ((partsL N n n).drop (p + 1)).flatten.length = 0 by omega)]
    simp
  have hcv : ∀ i : Nat, colv N part (i : Int) = outs N n i := fun i => by
    unfold outs
    rw [hfl]
  have hrp : ∀ i, i < n → ∃ j : Nat, (j : Int) ∈ part ∧ Rch N n i j := fun i hi => by
    obtain ⟨L, hL, j, hj, hr⟩ := reach_part hn hmv hi
    exact ⟨j, by rw [← hfl]; exact List.mem_flatten.2 ⟨L, hL, hj⟩, hr⟩
  have hF : ∀ i, i < n → numL S N (partsL N n n) n i p = denL S N (partsL N n n) n → Fair S N (partsL N n n) n part p i := fun i hi he => by
    unfold Fair
    rw [he]
    exact ⟨by omega, ⟨fun _ => hrp i hi, fun _ => hden⟩, fun _ => rfl⟩
  refine ⟨hden, hF a han ?_, hF b hbn ?_, hF c hcn ?_⟩
  · rw [num3a h1 h2 h3 hU hp, den3 h1 h2 h3 hU, hra, hrb, hrc, hcv, hcv, hcv]
    exact cramer1 _ _ _ _ _ _ _ _ _
  · rw [num3b h1 h2 h3 hU hp, den3 h1 h2 h3 hU, hra, hrb, hrc, hcv, hcv, hcv]
    exact cramer2 _ _ _ _ _ _ _ _ _
  · rw [num3c h1 h2 h3 hU hp, den3 h1 h2 h3 hU, hra, hrb, hrc, hcv, hcv, hcv]
    exact cramer3 _ _ _ _ _ _ _ _ _
/-- Every open state; the determinant is positive. -/
theorem fair_all (hn : n ≤ 4) (h0 : 0 < n) (hmv : ∀ i, i < n → ∃ k, k < n ∧ 0 < N i k) (hN : ∀ i k, i < n → k < n → 0 ≤ N i k) (hrow : ∀ x, x < n → ((List.range n).map fun k => N x k).sum = S) (hp : (partsL N n n)[p]? = some part) :
    0 < denL S N (partsL N n n) n ∧ ∀ i : Nat, (i : Int) ∈ opL (partsL N n n) n → Fair S N (partsL N n n) n part p i := by
  have hnd : (opL (partsL N n n) n).Nodup := woL_nodup _ _
  have hnat : ∀ x ∈ opL (partsL N n n) n, ∃ k : Nat, x = k := fun x hx => by
    obtain ⟨⟨k, e, _⟩, _⟩ := woL_mem.1 hx
    exact ⟨k, e⟩
  have hfl : 0 < (partsL N n n).flatten.length := by
    obtain ⟨L, hL, j, hj, _⟩ := reach_part hn hmv h0
    exact List.length_pos_of_mem (List.mem_flatten.2 ⟨L, hL, hj⟩)
  have hlen := op_len (N := N) (n := n)
  cases hU : opL (partsL N n n) n with
  | nil =>
    refine ⟨?_, fun i hi => absurd hi (List.not_mem_nil)⟩
    unfold denL
    rw [hU]
    exact Int.one_pos
  | cons x l =>
    rw [hU] at hnd hnat hlen
    obtain ⟨a, rfl⟩ := hnat x (by simp)
    cases l with
    | nil =>
      have h := fair1 hn hmv hN hrow hp hU
      refine ⟨h.1, fun i hi => ?_⟩
      simp at hi
      obtain rfl : i = a := by omega
      exact h.2
    | cons y l =>
      obtain ⟨b, rfl⟩ := hnat y (by simp)
      cases l with
      | nil =>
        have hab : a ≠ b := fun e => by subst e; simp at hnd
        have h := fair2 hn hmv hN hrow hp hab hU
        refine ⟨h.1, fun i hi => ?_⟩
        simp at hi
        rcases hi with hi | hi
        · obtain rfl : i = a := by omega
          exact h.2.1
        · obtain rfl : i = b := by omega
          exact h.2.2
      | cons z l =>
        obtain ⟨c, rfl⟩ := hnat z (by simp)
        cases l with
        | nil =>
          have h1 : a ≠ b := fun e => by subst e; simp at hnd
          have h2 : a ≠ c := fun e => by subst e; simp at hnd
          have h3 : b ≠ c := fun e => by subst e; simp at hnd
          have h := fair3 hn hmv hN hrow hp h1 h2 h3 hU
          refine ⟨h.1, fun i hi => ?_⟩
          simp at hi
          rcases hi with hi | hi | hi
          · obtain rfl : i = a := by omega
            exact h.2.1
          · obtain rfl : i = b := by omega
            exact h.2.2.1
          · obtain rfl : i = c := by omega
            exact h.2.2.2
        | cons t l =>
          simp only [List.length_cons] at hlen
          omega
end
end Go.Proofs.YtibmpjhffeinoaaGreat

namespace Go.Proofs.YtibmpjhffeinoaaGreat
open Go.RowKit

theorem det_b3 {Ls : List (List Int)} (h : BndL Ls) {m : Nat} (hm : m ≤ 3) : det m Ls ≤ 100000000 := by
  by_cases e : m = 3
  · subst e
    have h1 := dsum_b h (show 2 ≤ 2 by omega) 3
    show dsum (det 2) Ls 3 ≤ _
    omega
  · have h1 := det_b2 h m (by omega)
    omega
theorem range_map (xs : List Int) : ((List.range xs.length).map fun k => nth xs k) = xs := by
  refine List.ext_getElem? fun k => ?_
  rw [List.getElem?_map]
  by_cases hk : k < xs.length
  · rw [List.getElem?_range hk, List.getElem?_eq_getElem hk]
    unfold nth
    rw [Option.map_some, List.getElem?_eq_getElem hk]
    rfl
  · rw [List.getElem?_eq_none (by simp; omega), List.getElem?_eq_none (by omega)]
    rfl
theorem sum_none : ∀ {xs : List Int}, (∀ x ∈ xs, x ≤ 0) → xs.sum ≤ 0
  | [], _ => Int.le_refl _
  | x :: xs, h => by
    rw [List.sum_cons]
    have h1 := h x (List.mem_cons_self)
    have h2 := sum_none fun y hy => h y (List.mem_cons_of_mem _ hy)
    omega
section
variable {Ls : List (List Int)} {ys : List Int} {S : Int}
theorem val_nn (hv : ValM S Ls ys) {i k : Nat} (hi : i < Ls.length) (hk : k < Ls.length) : 0 ≤ nn2 Ls i k ∧ nn2 Ls i k ≤ S := by
  unfold nn2
  rw [List.getElem?_eq_getElem hi]
  have hm := List.getElem_mem hi
  have hl := hv.1.2.1 _ hm
  show 0 ≤ nth Ls[i] k ∧ nth Ls[i] k ≤ S
  unfold nth
  rw [List.getElem?_eq_getElem (by omega)]
  exact hv.1.2.2.2.2.1 _ hm _ (List.getElem_mem _)
theorem val_row (hv : ValM S Ls ys) (x : Nat) (hx : x < Ls.length) : ((List.range Ls.length).map fun k => nn2 Ls x k).sum = S := by
  have hm := List.getElem_mem hx
  have hl := hv.1.2.1 _ hm
  have h1 : (fun k => nn2 Ls x k) = fun k => nth Ls[x] k := by
    funext k
    unfold nn2
    rw [List.getElem?_eq_getElem hx]
    rfl
  rw [h1, ← hl, range_map]
  exact hv.2 _ hm
theorem val_mv (hv : ValM S Ls ys) (i : Nat) (hi : i < Ls.length) : ∃ k, k < Ls.length ∧ 0 < nn2 Ls i k := by
  refine Classical.byContradiction fun hc => ?_
  have h1 := val_row hv i hi
  have h2 := sum_none (xs := (List.range Ls.length).map fun k => nn2 Ls i k) fun x hx => by
    obtain ⟨k, hk, rfl⟩ := List.mem_map.1 hx
    have : ¬ 0 < nn2 Ls i k := fun h => hc ⟨k, List.mem_range.1 hk, h⟩
    omega
  have h3 := hv.1.2.2.2.1
  omega
end
section
variable {N : Nat → Nat → Int} {n : Nat} {part : List Int} {p : Nat} {S : Int}
theorem land_in (hp : (partsL N n n)[p]? = some part) {i : Nat} (hi : (i : Int) ∈ part) : landR S N (partsL N n n) n i p = (1, 1) := by
  unfold landR
  rw [if_neg fun h : (i : Int) ∈ opL (partsL N n n) n => (woL_mem.1 h).2 (part_flat hp hi), hp]
  exact if_pos hi
theorem land_out {i : Nat} (hp : (partsL N n n)[p]? = some part) (hf : (i : Int) ∈ (partsL N n n).flatten) (hi : (i : Int) ∉ part) : landR S N (partsL N n n) n i p = (0, 1) := by
  unfold landR
  rw [if_neg fun h : (i : Int) ∈ opL (partsL N n n) n => (woL_mem.1 h).2 hf, hp]
  exact if_neg hi
theorem gcd_pos {a b : Int} (hb : 0 < b) : (0 : Int) < ((a.toNat / Nat.gcd a.toNat b.toNat : Nat) : Int) ↔ 0 < a := by
  have h1 : 0 < Nat.gcd a.toNat b.toNat := Nat.gcd_pos_of_pos_right _ (by omega)
  constructor
  · intro h
    by_cases h0 : 0 < a
    · exact h0
    · rw [show a.toNat = 0 by omega, Nat.zero_div] at h
      exact absurd h (by decide)
  · intro h
    have h2 : Nat.gcd a.toNat b.toNat ≤ a.toNat := Nat.gcd_le_left _ (by omega)
    have h3 := Nat.div_pos h2 h1
    omega
theorem land_pos (hn : n ≤ 4) (h0 : 0 < n) (hmv : ∀ i, i < n → ∃ k, k < n ∧ 0 < N i k) (hN : ∀ i k, i < n → k < n → 0 ≤ N i k) (hrow : ∀ x, x < n → ((List.range n).map fun k => N x k).sum = S) (hp : (partsL N n n)[p]? = some part) {i : Nat} (hi : i < n) :
    0 < (landR S N (partsL N n n) n i p).1 ↔ (i : Int) ∈ part ∨ ∃ j : Nat, (j : Int) ∈ part ∧ Rch N n i j := by
  by_cases hU : (i : Int) ∈ opL (partsL N n n) n
  · obtain ⟨hd, hf⟩ := fair_all hn h0 hmv hN hrow hp
    have hfi := hf i hU
    have hni : (i : Int) ∉ part := fun h => (woL_mem.1 hU).2 (part_flat hp h)
    unfold landR
    rw [if_pos hU]
    show (0 : Int) < ((_ / _ : Nat) : Int) ↔ _
    rw [gcd_pos hd, hfi.2.1]
    exact ⟨.inr, fun h => h.elim (fun h => absurd h hni) id⟩
  · have hf : (i : Int) ∈ (partsL N n n).flatten := Classical.byContradiction fun h => hU (woL_mem.2 ⟨⟨i, rfl, hi⟩, h⟩)
    by_cases hip : (i : Int) ∈ part
    · rw [land_in hp hip]
      exact ⟨fun _ => .inl hip, fun _ => by decide⟩
    · rw [land_out hp hf hip]
      refine ⟨fun h => absurd h (by decide), fun h => h.elim (fun h => absurd h hip) fun ⟨j, hj, hr⟩ => ?_⟩
      obtain ⟨L, hL, hiL⟩ := List.mem_flatten.1 hf
      exact absurd (by rw [part_eq hn (part_of hp) hL hj (part_clo hn hL hiL hr)]; exact hiL) hip
theorem land_D (hn : n ≤ 4) (h0 : 0 < n) (hmv : ∀ i, i < n → ∃ k, k < n ∧ 0 < N i k) (hN : ∀ i k, i < n → k < n → 0 ≤ N i k) (hrow : ∀ x, x < n → ((List.range n).map fun k => N x k).sum = S) (hp : (partsL N n n)[p]? = some part) (K : Nat)
    (hf : rounds (List.replicate n true) (msL N n) (wonS n part) n (K + 1) = rounds (List.replicate n true) (msL N n) (wonS n part) n K) (i : Nat) (hi : i < n) :
    (0 < (landR S N (partsL N n n) n i p).1 ↔ 0 ≤ nth (rounds (List.replicate n true) (msL N n) (wonS n part) n K) i) ∧ ((partsL N n n).length = 1 → 0 ≤ nth (rounds (List.replicate n true) (msL N n) (wonS n part) n K) i) := by
  rw [far_true hn (fun x hx => part_nat (part_of hp) hx) hf hi]
  refine ⟨land_pos hn h0 hmv hN hrow hp hi, fun h1 => ?_⟩
  obtain ⟨L, hL, j, hj, hr⟩ := reach_part hn hmv hi
  obtain ⟨x, hx⟩ := List.length_eq_one_iff.1 h1
  have e1 := part_of hp
  rw [hx] at hL e1
  simp at hL e1
  exact .inr ⟨j, by rw [e1, ← hL]; exact hj, hr⟩
theorem land_E (hn : n ≤ 4) (h0 : 0 < n) (hmv : ∀ i, i < n → ∃ k, k < n ∧ 0 < N i k) (hN : ∀ i k, i < n → k < n → 0 ≤ N i k) (hrow : ∀ x, x < n → ((List.range n).map fun k => N x k).sum = S) (hp : (partsL N n n)[p]? = some part) (K : Nat) (i : Nat) (hi : i < n)
    (h : 0 ≤ nth (rounds (List.replicate n false) (msL N n) (wonS n part) n K) i) : landR S N (partsL N n n) n i p = (1, 1) := by
  by_cases hip : (i : Int) ∈ part
  · exact land_in hp hip
  have hz : ¬ ∃ j : Nat, (j : Int) ∈ (partsL N n n).flatten ∧ (j : Int) ∉ part ∧ Rch N n i j := fun hz => by
    have := far_false (part := part) hn (fun k => (k : Int) ∉ part ∧ ∃ j : Nat, (j : Int) ∈ (partsL N n n).flatten ∧ (j : Int) ∉ part ∧ Rch N n k j) (fun k _ ⟨h1, j, h2, h3, h4⟩ => ⟨h1, by
      obtain ⟨l, hl, hpos, h5⟩ := h4.first
      rcases h5 with rfl | h5
      · obtain ⟨L, hL, hjL⟩ := List.mem_flatten.1 h2
        exact ⟨l, hl, hpos, h3, l, h2, h3, (part_mem hn hL hjL).2⟩
      · exact ⟨l, hl, hpos, fun hc => h3 (part_clo hn (part_of hp) hc h5), j, h2, h3, h5⟩⟩) K i hi ⟨hip, hz⟩
    omega
  by_cases hU : (i : Int) ∈ opL (partsL N n n) n
  · obtain ⟨hd, hf⟩ := fair_all hn h0 hmv hN hrow hp
    have hfi := (hf i hU).2.2 fun j hj hr => Classical.byContradiction fun hc => hz ⟨j, hj, hc, hr⟩
    unfold landR
    rw [if_pos hU, hfi, Nat.gcd_self, Nat.div_self (by omega)]
    rfl
  · have hf : (i : Int) ∈ (partsL N n n).flatten := Classical.byContradiction fun h => hU (woL_mem.2 ⟨⟨i, rfl, hi⟩, h⟩)
    obtain ⟨L, hL, hiL⟩ := List.mem_flatten.1 hf
    exact absurd ⟨i, hf, hip, (part_mem hn hL hiL).2⟩ hz
/-- The numbers stay small. -/
theorem land_b (hn : n ≤ 4) (h0 : 0 < n) (hmv : ∀ i, i < n → ∃ k, k < n ∧ 0 < N i k) (hS : 0 ≤ S ∧ S ≤ 20) (hN : ∀ i k, i < n → k < n → 0 ≤ N i k ∧ N i k ≤ 20) (hp : (partsL N n n)[p]? = some part) :
    (opL (partsL N n n) n).length ≤ 3 ∧ denL S N (partsL N n n) n ≤ 100000000 ∧ ∀ i : Nat, numL S N (partsL N n n) n i p ≤ 100000000 := by
  have hlen := op_len (N := N) (n := n)
  have hfl : 0 < (partsL N n n).flatten.length := by
    obtain ⟨L, hL, j, hj, _⟩ := reach_part hn hmv h0
    exact List.length_pos_of_mem (List.mem_flatten.2 ⟨L, hL, hj⟩)
  have hop : ∀ x ∈ opL (partsL N n n) n, ∃ k : Nat, x = k ∧ k < n := fun x hx => (woL_mem.1 hx).1
  have hb := tabL_bnd hop hS hN
  have hU3 : (opL (partsL N n n) n).length ≤ 3 := by omega
  refine ⟨hU3, det_b3 hb hU3, fun i => ?_⟩
  have hcs : ∀ x ∈ csL N (partsL N n n) n p, -80 ≤ x ∧ x ≤ 80 := fun x hx => by
    unfold csL at hx
    obtain ⟨z, hz, rfl⟩ := List.mem_map.1 hx
    obtain ⟨k, rfl, hk⟩ := hop z hz
    rw [hp]
    show -80 ≤ colv N part k ∧ colv N part k ≤ 80
    have h1 := psum_b (N := N) (part := part) (x := (k : Int)) (fun y hy => by
      obtain ⟨l, rfl, hl⟩ := part_nat (part_of hp) hy
      rw [Int.toNat_natCast, Int.toNat_natCast]
      exact hN k l hk hl) part.length
    rw [psum_all] at h1
    have h2 := part_len (part_of hp)
    omega
  unfold numL solL nth
  rw [List.getElem?_map]
  by_cases hk : (idx (opL (partsL N n n) n) i).toNat < (opL (partsL N n n) n).length
  · rw [List.getElem?_range hk]
    exact det_b3 (repl_bnd hb hcs) hU3
  · rw [List.getElem?_eq_none (by simp; omega)]
    show (0 : Int) ≤ _
    omega
end
end Go.Proofs.YtibmpjhffeinoaaGreat
