/-
  wheel, plain: what is reached.
-/
import Derived.Test.YtibmpjhffeinoaaGreatLu
import Derived.Test.YtibmpjhffeinoaaGreatLt
namespace Go.Proofs.YtibmpjhffeinoaaGreat
open Go.RowKit

/-- A state leads to another one, by one turn or more. -/
inductive Rch (N : Nat → Nat → Int) (n : Nat) (i : Nat) : Nat → Prop
  | one {k : Nat} : k < n → 0 < N i k → Rch N n i k
  | more {j k : Nat} : Rch N n i j → k < n → 0 < N j k → Rch N n i k
theorem Rch.lt {N : Nat → Nat → Int} {n i k : Nat} (h : Rch N n i k) : k < n := by cases h <;> assumption
open Classical in
/-- All of them. -/
noncomputable def rchL (N : Nat → Nat → Int) (n i : Nat) : List Int := [0, 1, 2, 3].filter fun x => decide (Rch N n i x.toNat)
/-- Different numbers below m are not more than m. -/
theorem len_le : ∀ (m : Nat) (xs : List Int), xs.Nodup → (∀ x ∈ xs, 0 ≤ x ∧ x < m) → xs.length ≤ m
  | 0, xs, _, h => by
    cases xs with
    | nil => simp
    | cons x xs => have := h x (by simp); omega
  | m + 1, xs, hn, h => by
    by_cases hm : (m : Int) ∈ xs
    · have h2 := len_le m (xs.erase m) (hn.erase _) fun x hx => by
        rw [hn.mem_erase_iff] at hx
        have := h x hx.2
        omega
      rw [List.length_erase_of_mem hm] at h2
      omega
    · have := len_le m xs hn fun x hx => by
        have h1 := h x hx
        have h2 : x ≠ m := fun e => hm (e ▸ hx)
        omega
      omega
theorem perms1 : ([0, 1, 2, 3] : List Int).all (fun a => Kx.perms.contains [a]) = true := by decide +kernel
theorem perms2 : ([0, 1, 2, 3] : List Int).all (fun a => ([0, 1, 2, 3] : List Int).all fun b => decide (a = b) || Kx.perms.contains [a, b]) = true := by decide +kernel
theorem perms3 : ([0, 1, 2, 3] : List Int).all (fun a => ([0, 1, 2, 3] : List Int).all fun b => ([0, 1, 2, 3] : List Int).all fun c => decide (a = b) || decide (a = c) || decide (b = c) || Kx.perms.contains [a, b, c]) = true := by decide +kernel
theorem perms4 : ([0, 1, 2, 3] : List Int).all (fun a => ([0, 1, 2, 3] : List Int).all fun b => ([0, 1, 2, 3] : List Int).all fun c => ([0, 1, 2, 3] : List Int).all fun d => decide (a = b) || decide (a = c) || decide (b = c) || decide (a = d) || decide (b = d) || decide (c = d) || Kx.perms.contains [a, b, c, d]) = true := by decide +kernel
theorem mem4 {x : Int} (h : 0 ≤ x ∧ x < 4) : x ∈ ([0, 1, 2, 3] : List Int) := by
  have : x = 0 ∨ x = 1 ∨ x = 2 ∨ x = 3 := by omega
  rcases this with rfl | rfl | rfl | rfl <;> simp
theorem perm_mem {xs : List Int} (hn : xs.Nodup) (h : ∀ x ∈ xs, 0 ≤ x ∧ x < 4) : xs ∈ Kx.perms := by
  have hl := len_le 4 xs hn (fun x hx => h x hx)
  match xs, hn, h, hl with
  | [], _, _, _ => decide +kernel
  | [a], _, h, _ =>
    have := List.all_eq_true.1 perms1 a (mem4 (h a (by simp)))
    simpa using this
  | [a, b], hn, h, _ =>
    have := List.all_eq_true.1 (List.all_eq_true.1 perms2 a (mem4 (h a (by simp)))) b (mem4 (h b (by simp)))
    simp at hn this
    rcases this with e | e
    · exact absurd e hn
    · exact e
  | [a, b, c], hn, h, _ =>
    have := List.all_eq_true.1 (List.all_eq_true.1 (List.all_eq_true.1 perms3 a (mem4 (h a (by simp)))) b (mem4 (h b (by simp)))) c (mem4 (h c (by simp)))
    simp only [List.nodup_cons, List.mem_cons, List.not_mem_nil, or_false, not_or] at hn
    simp [hn.1.1, hn.1.2, hn.2.1] at this
    exact this
  | [a, b, c, d], hn, h, _ =>
    have := List.all_eq_true.1 (List.all_eq_true.1 (List.all_eq_true.1 (List.all_eq_true.1 perms4 a (mem4 (h a (by simp)))) b (mem4 (h b (by simp)))) c (mem4 (h c (by simp)))) d (mem4 (h d (by simp)))
    simp only [List.nodup_cons, List.mem_cons, List.not_mem_nil, or_false, not_or] at hn
    simp [hn.1.1, hn.1.2.1, hn.1.2.2, hn.2.1.1, hn.2.1.2, hn.2.2.1] at this
    exact this
  | _ :: _ :: _ :: _ :: _ :: _, _, _, hl => simp only [List.length_cons] at hl; omega
/-- The state of the search, ahead of a round. -/
structure Bfs (N : Nat → Nat → Int) (n i : Nat) (out wait : List Int) : Prop where
  nd : out.Nodup
  sound : ∀ x ∈ out, ∃ k : Nat, x = k ∧ Rch N n i k
  wt : ∀ x ∈ wait, x = i ∨ x ∈ out
  cl : ∀ j : Nat, ((j : Int) = i ∨ (j : Int) ∈ out) → (j : Int) ∈ wait ∨ ∀ k : Nat, k < n → 0 < N j k → (k : Int) ∈ out
/-- Within a round: the state at, the places ahead of q. -/
structure BfsI (N : Nat → Nat → Int) (n i : Nat) (out wait : List Int) (at_ q : Nat) : Prop where
  nd : out.Nodup
  sound : ∀ x ∈ out, ∃ k : Nat, x = k ∧ Rch N n i k
  wt : ∀ x ∈ wait, x = i ∨ x ∈ out
  cl : ∀ j : Nat, ((j : Int) = i ∨ (j : Int) ∈ out) → (j : Int) ∈ wait ∨ j = at_ ∨ ∀ k : Nat, k < n → 0 < N j k → (k : Int) ∈ out
  pt : ∀ k : Nat, k < q → 0 < N at_ k → (k : Int) ∈ out
  at' : (at_ : Int) = i ∨ (at_ : Int) ∈ out
section
variable {N : Nat → Nat → Int} {n i at_ q : Nat} {out wait : List Int}
theorem Bfs.start (N : Nat → Nat → Int) (n i : Nat) : Bfs N n i [] [(i : Int)] := ⟨List.nodup_nil, fun x h => by simp at h, fun x h => by simp at h; exact .inl h, fun j h => by
  rcases h with h | h
  · exact .inl (by simp [h])
  · simp at h⟩
theorem Bfs.pop {x : Int} (h : Bfs N n i out (x :: wait)) (hx : x = (at_ : Int)) : BfsI N n i out wait at_ 0 := ⟨h.nd, h.sound, fun y hy => h.wt y (by simp [hy]), fun j hj => by
  rcases h.cl j hj with h1 | h1
  · rw [List.mem_cons] at h1
    rcases h1 with h1 | h1
    · exact .inr (.inl (by omega))
    · exact .inl h1
  · exact .inr (.inr h1), fun k hk => absurd hk (Nat.not_lt_zero k), by rw [← hx]; exact h.wt x (by simp)⟩
theorem BfsI.skip (h : BfsI N n i out wait at_ q) (hn : ¬ 0 < N at_ q) : BfsI N n i out wait at_ (q + 1) := ⟨h.nd, h.sound, h.wt, h.cl, fun k hk hp => by
  by_cases e : k = q
  · subst e; exact absurd hp hn
  · exact h.pt k (by omega) hp, h.at'⟩
theorem BfsI.old (h : BfsI N n i out wait at_ q) (hm : (q : Int) ∈ out) : BfsI N n i out wait at_ (q + 1) := ⟨h.nd, h.sound, h.wt, h.cl, fun k hk hp => by
  by_cases e : k = q
  · subst e; exact hm
  · exact h.pt k (by omega) hp, h.at'⟩
theorem BfsI.new (h : BfsI N n i out wait at_ q) (hq : q < n) (hp : 0 < N at_ q) (hm : (q : Int) ∉ out) : BfsI N n i (out ++ [(q : Int)]) (wait ++ [(q : Int)]) at_ (q + 1) := ⟨by
  rw [List.nodup_append]
  exact ⟨h.nd, by simp, fun a ha b hb => by
    simp at hb
    subst hb
    exact fun e => hm (e ▸ ha)⟩, fun x hx => by
  rw [List.mem_append] at hx
  rcases hx with hx | hx
  · exact h.sound x hx
  · simp at hx
    refine ⟨q, hx, ?_⟩
    rcases h.at' with e | e
    · have : at_ = i := by omega
      subst this
      exact .one hq hp
    · obtain ⟨k, e1, e2⟩ := h.sound _ e
      have : at_ = k := by omega
      subst this
      exact .more e2 hq hp, fun x hx => by
  rw [List.mem_append] at hx ⊢
  rcases hx with hx | hx
  · rcases h.wt x hx with e | e
    · exact .inl e
    · exact .inr (.inl e)
  · exact .inr (.inr hx), fun j hj => by
  by_cases ej : j = q
  · subst ej
    exact .inl (by simp)
  · have hj2 : (j : Int) = i ∨ (j : Int) ∈ out := by
      rcases hj with hj | hj
      · exact .inl hj
      · rw [List.mem_append] at hj
        rcases hj with hj | hj
        · exact .inr hj
        · simp at hj; omega
    rcases h.cl j hj2 with h1 | h1 | h1
    · exact .inl (by simp [h1])
    · exact .inr (.inl h1)
    · exact .inr (.inr fun k hk hpk => by rw [List.mem_append]; exact .inl (h1 k hk hpk)), fun k hk hpk => by
  rw [List.mem_append]
  by_cases e : k = q
  · subst e; exact .inr (by simp)
  · exact .inl (h.pt k (by omega) hpk), by
  rcases h.at' with e | e
  · exact .inl e
  · exact .inr (by rw [List.mem_append]; exact .inl e)⟩
theorem BfsI.done (h : BfsI N n i out wait at_ n) : Bfs N n i out wait := ⟨h.nd, h.sound, h.wt, fun j hj => by
  rcases h.cl j hj with h1 | h1 | h1
  · exact .inl h1
  · subst h1
    exact .inr fun k hk hp => h.pt k hk hp
  · exact .inr h1⟩
theorem BfsI.len (h : BfsI N n i out wait at_ q) (hn : n ≤ 4) : out.length ≤ 4 := len_le 4 out h.nd fun x hx => by
  obtain ⟨k, e, hr⟩ := h.sound x hx
  have := hr.lt
  omega
theorem Bfs.len (h : Bfs N n i out wait) (hn : n ≤ 4) : out.length ≤ 4 := len_le 4 out h.nd fun x hx => by
  obtain ⟨k, e, hr⟩ := h.sound x hx
  have := hr.lt
  omega
theorem Bfs.all (h : Bfs N n i out []) {k : Nat} : Rch N n i k ↔ (k : Int) ∈ out := by
  constructor
  · intro hr
    induction hr with
    | one hk hp =>
      rcases h.cl i (.inl rfl) with h1 | h1
      · simp at h1
      · exact h1 _ hk hp
    | more _ hk hp ih =>
      rcases h.cl _ (.inr ih) with h1 | h1
      · simp at h1
      · exact h1 _ hk hp
  · intro hm
    obtain ⟨k', e, hr⟩ := h.sound _ hm
    have : k = k' := by omega
    subst this
    exact hr
open Classical in
theorem Bfs.srt (h : Bfs N n i out []) : Kx.srt out = rchL N n i := by
  unfold Kx.srt rchL
  refine List.filter_congr fun x hx => ?_
  have hx0 : ((x.toNat : Nat) : Int) = x := by
    simp only [List.mem_cons, List.not_mem_nil, or_false] at hx
    omega
  have := h.all (k := x.toNat)
  rw [hx0] at this
  rw [Bool.eq_iff_iff, decide_eq_true_eq, this, List.contains_iff_mem]
theorem Bfs.perm (h : Bfs N n i out wait) (hn : n ≤ 4) : out ∈ Kx.perms := perm_mem h.nd fun x hx => by
  obtain ⟨k, e, hr⟩ := h.sound x hx
  have := hr.lt
  omega
end
open Classical in
theorem rchL_mem {N : Nat → Nat → Int} {n i k : Nat} (hn : n ≤ 4) : (k : Int) ∈ rchL N n i ↔ Rch N n i k := by
  unfold rchL
  rw [List.mem_filter, decide_eq_true_eq]
  constructor
  · intro h
    have := h.2
    simpa using this
  · intro h
    have := h.lt
    exact ⟨mem4 (by omega), by simpa using h⟩
open Classical in
theorem rchL_of {N : Nat → Nat → Int} {n i : Nat} {x : Int} (h : x ∈ rchL N n i) : ∃ k : Nat, x = k ∧ Rch N n i k := by
  unfold rchL at h
  rw [List.mem_filter, decide_eq_true_eq] at h
  have h1 := h.1
  simp only [List.mem_cons, List.not_mem_nil, or_false] at h1
  exact ⟨x.toNat, by omega, h.2⟩
end Go.Proofs.YtibmpjhffeinoaaGreat
