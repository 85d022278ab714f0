/-
  wheel: the table of turns: a map by pairs of numbers.
-/
import Derived.Test.YtibmpjhffeinoaaGreatNf
import Derived.Test.YtibmpjhffeinoaaGreatTK
import Derived.Maps.RangeWalk
import Derived.Maps.OwnOps
import Derived.Maps.OwnSet
namespace Go.Proofs.YtibmpjhffeinoaaGreat
open Go.RowKit Go.Shelf Go.Maps

theorem turnK : Kx.KeyOK Tryz.prog 218 2 := Kx.ko218
theorem lawT : Keyed Tryz.prog 218 := turnK.keyed
theorem under_turns : Tryz.prog.underlying 103 = some (.map 218 2) := by kernel_rfl
theorem under_i64 : Tryz.prog.underlying 2 = some (.int .i64) := by kernel_rfl
theorem zero_i64 (w : World) : (zeroValue 2).run Tryz.prog w = .ok (.int .i64 0) w := by kernel_rfl
/-- A turn. -/
def tv (i k : Int) : Value := .agg #[.int .i64 i, .int .i64 k]
theorem wf_small {x : Int} (h : 0 ≤ x ∧ x ≤ 1000) : (Lit.int .i64 x).wf = true := WalkArith.wf_i64 (by omega)
theorem tk_ex {i k : Int} (hi : 0 ≤ i ∧ i ≤ 1000) (hk : 0 ≤ k ∧ k ≤ 1000) : ∃ l, keyOf Tryz.prog 218 (tv i k) = some l := turnK.keyOf [i, k] rfl fun x hx => by
  simp only [List.mem_cons, List.not_mem_nil, or_false] at hx
  rcases hx with rfl | rfl
  · exact wf_small hi
  · exact wf_small hk
theorem tk_ne {i k i' k' : Int} {l l' : Lit} (h : keyOf Tryz.prog 218 (tv i k) = some l) (h' : keyOf Tryz.prog 218 (tv i' k') = some l') (hne : ¬ (i = i' ∧ k = k')) : l ≠ l' := fun e => by
  subst e
  have := lawT.inj h h'
  unfold tv at this
  simp only [Value.agg.injEq, Array.mk.injEq, List.cons.injEq, Value.int.injEq, true_and, and_true] at this
  exact hne this
/-- What the table says of the turns ahead of m. -/
def TuB (n m : Nat) (N : Nat → Nat → Int) (D : DataW Unit) : Prop := IsMap D ∧ ∀ (i k : Nat) (l : Lit), i < n → k < n → i * n + k < m → keyOf Tryz.prog 218 (tv i k) = some l → D.atKey l (.lit (.int .i64 0)) = .lit (.int .i64 (N i k))
theorem TuB.zero (n : Nat) (N : Nat → Nat → Int) : TuB n 0 N (.map []) := ⟨isMap_empty, fun _i _k _l _ _ h => absurd h (Nat.not_lt_zero _)⟩
theorem TuB.mono {n m m' : Nat} {N : Nat → Nat → Int} {D : DataW Unit} (h : TuB n m N D) (hm : m' ≤ m) : TuB n m' N D := ⟨h.1, fun i k l hi hk hl hkey => h.2 i k l hi hk (by omega) hkey⟩
theorem pair_eq {n i k i' k' : Nat} (hk : k < n) (hk' : k' < n) (h : i * n + k = i' * n + k') : i = i' ∧ k = k' := by
  have h1 : i = i' := by
    have e1 : (i * n + k) / n = i := by rw [Nat.mul_comm, Nat.mul_add_div (by omega), Nat.div_eq_of_lt hk]; omega
    have e2 : (i' * n + k') / n = i' := by rw [Nat.mul_comm, Nat.mul_add_div (by omega), Nat.div_eq_of_lt hk']; omega
    rw [← e1, ← e2, h]
  subst h1
  exact ⟨rfl, by omega⟩
theorem TuB.put {n i k : Nat} {N : Nat → Nat → Int} {D : DataW Unit} {l : Lit} {x : Int} (h : TuB n (i * n + k) N D) (hk : k < n) (hkey : keyOf Tryz.prog 218 (tv i k) = some l) (hx : N i k = x) : TuB n (i * n + k + 1) N (D.put l (.lit (.int .i64 x))) :=
  ⟨h.1.put _ _, fun i' k' l' hi' hk' hlt hkey' => by
    by_cases e : i' = i ∧ k' = k
    · obtain ⟨rfl, rfl⟩ := e
      rw [hkey] at hkey'
      cases hkey'
      rw [atKey_put_same h.1 (lawT.key hkey), hx]
    · rw [atKey_put_other (tk_ne hkey' hkey fun e' => e (by omega))]
      refine h.2 i' k' l' hi' hk' ?_ hkey'
      have : i' * n + k' ≠ i * n + k := fun e' => e (pair_eq hk' hk e')
      omega⟩
/-- What the table says. -/
def Tu (n : Nat) (N : Nat → Nat → Int) (D : DataW Unit) : Prop := ∀ (i k : Nat) (l : Lit), i < n → k < n → keyOf Tryz.prog 218 (tv i k) = some l → D.atKey l (.lit (.int .i64 0)) = .lit (.int .i64 (N i k))
theorem TuB.all {n : Nat} {N : Nat → Nat → Int} {D : DataW Unit} (h : TuB n (n * n) N D) : Tu n N D := fun i k l hi hk hkey => h.2 i k l hi hk (by
  have : (i + 1) * n ≤ n * n := Nat.mul_le_mul_right n hi
  rw [Nat.add_mul] at this
  omega) hkey
theorem Tu.del {n : Nat} {N : Nat → Nat → Int} {D : DataW Unit} {l0 : Lit} (h : Tu n N D) (h0 : D.atKey l0 (.lit (.int .i64 0)) = .lit (.int .i64 0)) : Tu n N (D.del l0) := fun i k l hi hk hkey => by
  by_cases e : l = l0
  · subst e
    rw [atKey_del_same, ← h i k l hi hk hkey, h0]
  · rw [atKey_del_other e]
    exact h i k l hi hk hkey
theorem Tu.look {n i k : Nat} {N : Nat → Nat → Int} {D : DataW Unit} {l : Lit} {c : Int} (h : Tu n N D) (hi : i < n) (hk : k < n) (hkey : keyOf Tryz.prog 218 (tv i k) = some l) (hat : D.atKey l (.lit (.int .i64 0)) = .lit (.int .i64 c)) : c = N i k := by
  rw [h i k l hi hk hkey] at hat
  simp only [DataW.lit.injEq, Lit.int.injEq, true_and] at hat
  exact hat.symm
/-- Every key is a turn. -/
theorem tk_inv {key : Value} {l : Lit} (h : keyOf Tryz.prog 218 key = some l) : ∃ x : Int × Int, key = tv x.1 x.2 := by
  have hu := Tryz.underlying218
  have hc : Tryz.prog.cellsOf 218 = 2 := by kernel_rfl
  have hc1 : Tryz.prog.cellsOf 3 = 1 := by kernel_rfl
  have hi : Tryz.prog.underlying 3 = some (.int .i64) := by kernel_rfl
  have hsz : ∃ m, Tryz.prog.types.size = m + 1 := ⟨_, Tryz.types_size⟩
  obtain ⟨m, hsz⟩ := hsz
  unfold keyOf at h
  simp only [hu] at h
  split at h
  · rename_i hf
    rw [Bool.and_eq_true] at hf
    obtain ⟨_, hf⟩ := hf
    cases key <;> simp [Value.formed, hu] at hf
    rename_i cs
    rw [hc] at hf
    obtain ⟨a, b, rfl⟩ : ∃ a b, cs = #[a, b] := by
      obtain ⟨cl⟩ := cs
      cases cl with
      | nil => simp at hf
      | cons a cl => cases cl with
        | nil => simp at hf
        | cons b cl => cases cl with
          | nil => exact ⟨a, b, rfl⟩
          | cons => simp at hf
    have key : ∀ v : Value, ∀ d ls, Tryz.prog.keyLits (d + 1) 3 [v] = some ls → ∃ x, v = .int .i64 x := fun v d ls hv => by
      unfold Program.keyLits at hv
      rw [hi] at hv
      cases v <;> simp at hv
      obtain ⟨⟨e, _⟩, _⟩ := hv
      subst e
      exact ⟨_, rfl⟩
    rw [hsz] at h
    unfold Program.keyLits at h
    simp only [hu, Value.cells] at h
    split at h
    · simp only [List.mapM_cons, List.mapM_nil, Option.map_eq_some_iff] at h
      obtain ⟨_, ⟨_, h, _⟩, _⟩ := h
      simp only [bind, Option.bind_eq_some_iff, pure, hc1] at h
      obtain ⟨x1, e1, _, ⟨x2, e2, _⟩, _⟩ := h
      obtain ⟨x, rfl⟩ := key _ _ _ e1
      obtain ⟨y, rfl⟩ := key _ _ _ e2
      exact ⟨(x, y), rfl⟩
    · cases h
  · cases h
end Go.Proofs.YtibmpjhffeinoaaGreat
