/-
  slices.Sort of a short list: the runs.
-/
import Derived.Test.YtibmpjhffeinoaaGreatO
namespace Go.Proofs.YtibmpjhffeinoaaGreat.Kx
open Go Go.RowKit

noncomputable section
/-! ### Frozen blocks, one after another -/
def mkH : List AO → AH → Option AH
  | [], h => some h
  | a :: l, h => newHK none h a fun h' => mkH l h'
theorem mkH_get : ∀ (l : List AO) {h h' : AH}, mkH l h = some h' → h'.nx = h.nx + l.length ∧ ∀ i a, h'.get i = some a → h.get i = some a ∨ ∃ j, i = h.nx + j ∧ l[j]? = some a
  | [], h, h', he => by cases he; exact ⟨rfl, fun i a hi => .inl hi⟩
  | x :: l, h, h', he => by
    obtain ⟨h1, n1, n2, n3⟩ := newHK_some (k := fun h' => mkH l h') he
    obtain ⟨e1, e2⟩ := mkH_get l n3
    refine ⟨by rw [e1, n1, List.length_cons]; omega, fun i a hi => ?_⟩
    rcases e2 i a hi with h2 | ⟨j, h2, h3⟩
    · rcases n2 i a h2 with ⟨h3, h4⟩ | ⟨_, h3⟩
      · exact .inr ⟨0, by omega, by rw [h4]; rfl⟩
      · exact .inl h3
    · exact .inr ⟨j + 1, by omega, by simpa using h3⟩
theorem mk_get {l : List AO} {h : AH} (he : mkH l noH = some h) : h.nx = l.length ∧ ∀ i a, h.get i = some a → l[i]? = some a := by
  obtain ⟨e1, e2⟩ := mkH_get l he
  have n0 : noH.nx = 0 := rfl
  refine ⟨by rw [e1, n0]; omega, fun i a hi => ?_⟩
  rcases e2 i a hi with h1 | ⟨j, h1, h2⟩
  · exact absurd h1 (noH_get _ _)
  · rw [n0, Nat.zero_add] at h1
    rw [h1]
    exact h2
/-- All lists of different numbers below 4. -/
def perms : List (List Int) := [[], [0], [1], [2], [3], [0, 1], [0, 2], [0, 3], [1, 0], [1, 2], [1, 3], [2, 0], [2, 1], [2, 3], [3, 0], [3, 1], [3, 2], [0, 1, 2], [0, 1, 3], [0, 2, 1], [0, 2, 3], [0, 3, 1], [0, 3, 2], [1, 0, 2], [1, 0, 3], [1, 2, 0], [1, 2, 3], [1, 3, 0], [1, 3, 2], [2, 0, 1], [2, 0, 3], [2, 1, 0], [2, 1, 3], [2, 3, 0], [2, 3, 1], [3, 0, 1], [3, 0, 2], [3, 1, 0], [3, 1, 2], [3, 2, 0], [3, 2, 1], [0, 1, 2, 3], [0, 1, 3, 2], [0, 2, 1, 3], [0, 2, 3, 1], [0, 3, 1, 2], [0, 3, 2, 1], [1, 0, 2, 3], [1, 0, 3, 2], [1, 2, 0, 3], [1, 2, 3, 0], [1, 3, 0, 2], [1, 3, 2, 0], [2, 0, 1, 3], [2, 0, 3, 1], [2, 1, 0, 3], [2, 1, 3, 0], [2, 3, 0, 1], [2, 3, 1, 0], [3, 0, 1, 2], [3, 0, 2, 1], [3, 1, 0, 2], [3, 1, 2, 0], [3, 2, 0, 1], [3, 2, 1, 0]]
/-- Sorted. -/
def srt (xs : List Int) : List Int := [0, 1, 2, 3].filter fun x => xs.contains x
def sortH (cs : List AV) : AH := ⟨1, (.n (.n (.n (.n (.n (.n (.n (.n (.n (.n (.n (.n (.n (.n (.n (.l (.cells cs)) .e) .e) .e) .e) .e) .e) .e) .e) .e) .e) .e) .e) .e) .e) .e)⟩
def intA (xs : List Int) : List AV := xs.map (AV.int .i64)
def sortQ (q : Option Res) (xs : List Int) : Bool := match q with
  | some (.val (.tup []) hh) => getK false hh.t 0 fun ao => match ao with
    | .cells cs => eqFs cs (intA (srt xs))
    | _ => false
  | _ => false
def sortB (xs : List Int) : Bool := sortQ (run (exeO [] [] []) 5000 (.call (.func 338) [.sl (some (0, 0)) xs.length (.u 1)] (sortH (intA xs)))) xs
theorem sort_all : perms.all sortB = true := by decide +kernel
end
theorem intA_get {xs : List Int} {j : Nat} {x : AV} (h : (intA xs)[j]? = some x) : ∃ z, xs[j]? = some z ∧ x = .int .i64 z := by
  unfold intA at h
  rw [List.getElem?_map, Option.map_eq_some_iff] at h
  obtain ⟨z, h1, h2⟩ := h
  exact ⟨z, h1, h2.symm⟩
theorem intA_of {xs : List Int} {j : Nat} {z : Int} (h : xs[j]? = some z) : (intA xs)[j]? = some (.int .i64 z) := by
  unfold intA
  rw [List.getElem?_map, h]
  rfl
theorem sortH_mk (cs : List AV) : mkH [.cells cs] noH = some (sortH cs) := rfl
theorem sortH_get {cs : List AV} {i : Nat} {a : AO} (h : (sortH cs).get i = some a) : i = 0 ∧ a = .cells cs := by
  have h2 := (mk_get (sortH_mk cs)).2 i a h
  match i, h2 with
  | 0, h2 => simp at h2; exact ⟨rfl, h2.symm⟩
  | i + 1, h2 => simp at h2
theorem sort_call {xs : List Int} (hx : xs ∈ perms) {W : World} {g n c : Nat} {cs : Array Value} {t : TypeId} (hb : W.heap[g]? = some (.cells cs t (0, 0))) (hc : ∀ (j : Nat) (x : Int), xs[j]? = some x → cs[j]? = some (.int .i64 x)) (hl : xs.length = n) (hn : n ≤ c) (hcs : c ≤ cs.size) :
    Calls Tryz.prog 338 #[.slice (some ⟨g, 0, none⟩) n c] W fun e W' => e = .returned (.tuple #[]) ∧ ∃ (cs' : Array Value) (t' : TypeId), W'.heap[g]? = some (.cells cs' t' (0, 0)) ∧ (∀ (j : Nat) (x : Int), (srt xs)[j]? = some x → cs'[j]? = some (.int .i64 x)) ∧ Below g W W' := by
  have he : sortB xs = true := List.all_eq_true.1 sort_all xs hx
  letI : Val := ⟨fun _ => 0, fun _ => .nilFunc⟩
  letI : Bet := bet0
  unfold sortB sortQ at he
  split at he
  · rename_i hh hq
    have hcs2 : hh.get 0 = some (.cells (intA (srt xs))) := by
      rw [getK_eq] at he
      cases hg : hh.t.get 0 with
      | none => rw [hg] at he; cases he
      | some ao =>
        rw [hg] at he
        cases ao <;> try (cases he; done)
        rw [← eqFs_true _ he]
        exact AH.get_of hg (by simp)
    have hR : R (fun i => if i = 0 then some (g, (0, cs.size)) else none) (sortH (intA xs)) W := ⟨fun i ao hi => by
      obtain ⟨rfl, rfl⟩ := sortH_get hi
      refine ⟨g, (0, cs.size), _, rfl, hb, cs, t, rfl, rfl, fun j x hj => ?_⟩
      obtain ⟨z, h1, rfl⟩ := intA_get hj
      exact ⟨_, by rw [Nat.zero_add]; exact hc j z h1, .int _ _, rfl⟩, fun i j a b _ _ _ hi hj _ _ => by
      obtain ⟨rfl, _⟩ := sortH_get hi
      obtain ⟨rfl, _⟩ := sortH_get hj
      exact .inl rfl, fun i p hp => by
      have hp : (if i = 0 then some (g, (0, cs.size)) else none) = some p := hp
      split at hp
      · rename_i h; rw [h]; exact Nat.zero_lt_one
      · cases hp⟩
    have hv : VRs (fun i => if i = 0 then some (g, (0, cs.size)) else none) [.sl (some (0, 0)) xs.length (.u 1)] [.slice (some ⟨g, 0, none⟩) n c] := .cons _ _ _ _ (by
      rw [hl]
      exact .slU 0 0 g (0, cs.size) n c 1 ⟨g, 0, none⟩ rfl hn (fun _ => rfl) fun _ => by show 0 + 0 + c * 1 ≤ cs.size; omega) .nil
    obtain ⟨_, c2⟩ := exeO_sound (show OrcOK [] from fun _ h => absurd h (by simp)) (l := []) (ms := []) (fun f hf => by cases hf) (fun e he => by cases he) 5000 _ _ hq _ W _ hR hv
    refine CallsIn.calls ((c2 0).mono fun e w' hb => ?_) fun k => room_wide k
    obtain ⟨u, φ', rfl, b1, b2, b3⟩ := hb
    obtain ⟨g', d, o, k1, k2, cc, ee, rfl, k3, k4⟩ := b2.obj _ _ hcs2
    have k5 := b3.ext 0 (g, (0, cs.size)) rfl
    rw [k1] at k5
    cases k5
    refine ⟨?_, cc, ee, k2, fun j x hj => ?_, ⟨b3.os, b3.tape, b3.output, ?_, fun k hk => b3.fr k ?_ fun i a d _ _ hp => ?_⟩⟩
    · cases b1 with
      | tup _ us' hvs =>
        have : us' = us'.toList.toArray := by simp
        rw [this]
        generalize us'.toList = vs at hvs
        cases hvs
        rfl
    · obtain ⟨v, q1, q2, _⟩ := k4 j _ (intA_of hj)
      rw [Nat.zero_add] at q1
      cases q2
      exact q1
    · exact b3.size
    · exact Nat.lt_trans hk (Array.getElem?_eq_some_iff.1 hb).1
    · have hp : (if i = 0 then some (g, (0, cs.size)) else none) = some (k, d) := hp
      split at hp
      · cases hp; exact absurd hk (Nat.lt_irrefl _)
      · cases hp
  · cases he
end Go.Proofs.YtibmpjhffeinoaaGreat.Kx
