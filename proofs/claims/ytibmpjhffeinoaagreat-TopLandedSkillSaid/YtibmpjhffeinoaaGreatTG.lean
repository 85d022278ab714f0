/-
  Facts on tables, in general.
-/
import Derived.Test.YtibmpjhffeinoaaGreatA5
import Derived.DeepKeys4
import Derived.Maps.Keyed
namespace Go.Proofs.YtibmpjhffeinoaaGreat.Kx
open Go
variable [Val] [Bet]

def AllT {α : Type} (p : Nat → α → Prop) : Tr α → Prop
  | .e => True
  | .l v => p 0 v
  | .n a b => AllT (fun k => p (2 * k)) a ∧ AllT (fun k => p (2 * k + 1)) b
omit [Val] [Bet] in
theorem AllT.get {α : Type} : ∀ {t : Tr α} {p : Nat → α → Prop} {k : Nat} {v : α}, AllT p t → t.get k = some v → p k v
  | .e, _, _, _, _, h => by cases h
  | .l u, p, k, v, ha, h => by
    unfold Tr.get at h
    split at h
    · cases h; subst k; exact ha
    · cases h
  | .n a b, p, k, v, ha, h => by
    unfold Tr.get at h
    split at h
    · have := AllT.get ha.1 h
      rwa [show 2 * (k / 2) = k from by omega] at this
    · have := AllT.get ha.2 h
      rwa [show 2 * (k / 2) + 1 = k from by omega] at this
def TOK (P : Program) (t : Nat) (ti : TI) : Prop := ∃ i dsc z, TIok P t ti i dsc z
def FOK (P : Program) (f : Nat) (fi : FI) : Prop := ∃ fn, P.funcs[f]? = some fn ∧ fn.body = some fi.code.real ∧ fi.code.OK P ∧ fn.ntmps = fi.nt ∧ fn.results.toList = fi.results ∧ (fn.name == "runtime.NumGoroutine") = false
/-! ### Keys -/
def KL (P : Program) (d t n : Nat) : Prop := ∀ ks : List Int, ks.length = n → (∀ x ∈ ks, (Lit.int .i64 x).wf = true) → ∃ ls, P.keyLits d t (ks.map (Value.int .i64)) = some ls
omit [Val] [Bet] in
theorem mapM_ex {α β : Type} {f : α → Option β} : ∀ l : List α, (∀ x ∈ l, ∃ y, f x = some y) → ∃ ys, l.mapM f = some ys
  | [], _ => ⟨[], rfl⟩
  | x :: l, h => by
    obtain ⟨y, hy⟩ := h x List.mem_cons_self
    obtain ⟨ys, hys⟩ := mapM_ex l fun z hz => h z (List.mem_cons_of_mem _ hz)
    exact ⟨y :: ys, by rw [List.mapM_cons, hy, hys]; rfl⟩
variable {P : Program} {d t n : Nat}
omit [Val] [Bet] in
theorem kl_int (hu : P.underlying t = some (.int .i64)) : KL P (d + 1) t 1 := by
  intro ks hl hw
  obtain ⟨x, rfl⟩ := List.length_eq_one_iff.1 hl
  refine ⟨[.int .i64 x], ?_⟩
  unfold Program.keyLits
  simp [hu, hw x (by simp)]
omit [Val] [Bet] in
theorem kl_part {m o : Nat} {e : Nat} (h : KL P d e m) {ks : List Int} (hl : o + m ≤ ks.length) (hw : ∀ x ∈ ks, (Lit.int .i64 x).wf = true) : ∃ ls, P.keyLits d e (((ks.map (Value.int .i64)).drop o).take m) = some ls := by
  rw [← List.map_drop, ← List.map_take]
  exact h _ (by rw [List.length_take, List.length_drop]; omega) fun x hx => hw x (List.mem_of_mem_drop (List.mem_of_mem_take hx))
omit [Val] [Bet] in
theorem kl_arr {m e k : Nat} (hu : P.underlying t = some (.array k e)) (hc : P.cellsOf t = n) (he : P.cellsOf e = m) (hn : n = k * m) (h : KL P d e m) : KL P (d + 1) t n := by
  intro ks hl hw
  have hq : ∃ ys, (List.range k).mapM (fun i => P.keyLits d e (((ks.map (Value.int .i64)).drop (i * P.cellsOf e)).take (P.cellsOf e))) = some ys := by
    refine mapM_ex _ fun i hi => ?_
    rw [he]
    refine kl_part h ?_ hw
    have := List.mem_range.1 hi
    rw [hl, hn]
    calc i * m + m = (i + 1) * m := by rw [Nat.succ_mul]
      _ ≤ k * m := Nat.mul_le_mul_right m this
  obtain ⟨ys, hys⟩ := hq
  refine ⟨ys.flatten, ?_⟩
  unfold Program.keyLits
  simp only [hu]
  rw [if_pos (by rw [List.length_map, hl, hc]), hys]
  rfl
omit [Val] [Bet] in
theorem kl_struct {fs : Array Field} (hu : P.underlying t = some (.struct fs)) (hc : P.cellsOf t = n) (hb : fs.all (·.name != "_") = true) (h : ∀ f ∈ fs.toList, KL P d f.type (P.cellsOf f.type) ∧ f.offset + P.cellsOf f.type ≤ n) : KL P (d + 1) t n := by
  intro ks hl hw
  have hq : ∃ ys, fs.toList.mapM (fun f => P.keyLits d f.type (((ks.map (Value.int .i64)).drop f.offset).take (P.cellsOf f.type))) = some ys :=
    mapM_ex _ fun f hf => kl_part (h f hf).1 (by rw [hl]; exact (h f hf).2) hw
  obtain ⟨ys, hys⟩ := hq
  refine ⟨ys.flatten, ?_⟩
  unfold Program.keyLits
  simp only [hu]
  rw [if_pos ⟨by rw [List.length_map, hl, hc], hb⟩, hys]
  rfl
omit [Val] [Bet] in
theorem keyOK_of (hlaid : laidOutB P = true) {m : Nat} (hm : m + 1 ≤ 10000) (hrow : t < P.types.size) (hk : P.keyTypeAt m t = true) (hwide : (match P.underlying t with | some (.array _ _) | some (.struct _) => true | _ => false) = true)
    (hg : P.eqGuardType P.depth t = false) (hc : P.cellsOf t = n) (hkt : P.keyType t = true) (hkl : KL P (P.types.size + 1) t n) : KeyOK P t n := by
  refine ⟨Maps.Keyed.of_law (deep_law_laid hlaid hm hrow hk hwide), hwide, hg, fun ks hl hw => ?_⟩
  obtain ⟨ls, hls⟩ := hkl ks hl hw
  refine ⟨.string (keyBytes ls), ?_⟩
  have hf : (Value.agg (intsV ks)).formed P t = true := by
    unfold Value.formed
    cases hu : P.underlying t with
    | none => simp [hu] at hwide
    | some dd => cases dd <;> simp_all [intsV]
  have hcells : (Value.agg (intsV ks)).cells.toList = ks.map (Value.int .i64) := by simp [Value.cells, intsV]
  unfold keyOf
  cases hu : P.underlying t with
  | none => simp [hu] at hwide
  | some dd => cases dd <;> simp_all
end Go.Proofs.YtibmpjhffeinoaaGreat.Kx
