/-
  Rows of rows of pairs that the call itself makes.
-/
import Derived.Test.YtaekjnjignlmoaaBd
import Derived.Test.YtaekjnjignlmoaaRz
import Derived.Test.YtaekjnjignlmoaaIt
import Derived.Deep.OwnRows
namespace Go.Proofs.Ytaekjnjignlmoaa
open Go.RowKit Go.Shelf

theorem info_rowp : (Try.prog.info? 77).map (fun i => (i.zero, i.size, i.bytes)) = some (some (.slice none 0 0), 1, 24) := by kernel_rfl
theorem info_pair : (Try.prog.info? 76).map (fun i => (i.zero, i.size, i.bytes)) = some (some (.agg #[.int .i64 0, .int .i64 0]), 2, 16) := by kernel_rfl
theorem under_rowsp : Try.prog.underlying 47 = some (.slice 77) := by kernel_rfl
theorem under_pairs : Try.prog.underlying 77 = some (.slice 76) := by kernel_rfl
theorem made1 (z : Value) (n : Nat) : madeCells #[z] n = (List.replicate n z).toArray := by
  apply Array.ext'
  rw [toList_madeCells_one]
theorem made2 (z : Value) (n : Nat) : madeCells #[z, z] n = (List.replicate n z).toArray := by
  apply Array.ext
  · simp [madeCells]
  · intro i h1 h2
    have h3 : i % 2 = 0 ∨ i % 2 = 1 := by omega
    rcases h3 with h3 | h3 <;> simp [madeCells, h3]
theorem run_rows (n : Nat) (hn : n ≤ 1000) (w : World) : (Instr.makeSlice 47 (.int .i64 (n : Int)) (.int .i64 (n : Int))).run Try.prog w = .ok (.slice (some ⟨w.heap.size, 0, none⟩) n n) (w.alloc (.cells (Array.replicate n (Value.slice none 0 0)) 77)) := by
  rw [run_make_row' 47 77 (.slice none 0 0) 24 under_rowsp info_rowp rfl .i64 .i64 n (by omega) (by omega) w, made1, List.toArray_replicate]
theorem run_pairs (n : Nat) (hn : n ≤ 1000) (w : World) : (Instr.makeSlice 77 (.int .i64 (n : Int)) (.int .i64 (n : Int))).run Try.prog w = .ok (.slice (some ⟨w.heap.size, 0, none⟩) n n) (w.alloc (.cells (Array.replicate (n * 2) (Value.int .i64 0)) 76)) := by
  obtain ⟨i, hi, hz, hs, hb⟩ := info_parts info_pair
  have hr := run_make (P := Try.prog) w 77 76 i _ under_pairs hi hz .i64 .i64 n n (by omega) (Int.le_refl _) (by rw [hb]; omega) (by omega)
  simp only [Int.toNat_natCast, hs] at hr
  rw [hr]
  show Result.ok _ (w.alloc (.cells (madeCells #[.int .i64 0, .int .i64 0] (n * 2)) 76)) = _
  rw [made2, List.toArray_replicate]

/-- The cells of a row of pairs. -/
def rowC (F : Nat → Nat → Nat → Int) (x m : Nat) : Array Value := ((List.range (m * 2)).map fun j => Value.int .i64 (F x (j / 2) (j % 2))).toArray
def updN (F : Nat → Nat → Nat → Int) (x y e : Nat) (v : Int) (x' y' e' : Nat) : Int := if x' = x ∧ y' = y ∧ e' = e then v else F x' y' e'
theorem rowC_zero (x m : Nat) : rowC (fun _ _ _ => 0) x m = Array.replicate (m * 2) (Value.int .i64 0) := by
  unfold rowC
  rw [List.map_const', List.toArray_replicate]
  simp
theorem rowC_at (F : Nat → Nat → Nat → Int) (x : Nat) {m y e : Nat} (hy : y < m) (he : e < 2) : (rowC F x m)[y * 2 + e]? = some (.int .i64 (F x y e)) := by
  have h1 : (y * 2 + e) / 2 = y := by omega
  have h2 : (y * 2 + e) % 2 = e := by omega
  have h3 : y * 2 + e < m * 2 := by omega
  unfold rowC
  simp [h1, h2, h3]
theorem rowC_set (F : Nat → Nat → Nat → Int) (x : Nat) {m y e : Nat} (v : Int) (_hy : y < m) (he : e < 2) : (rowC F x m).setIfInBounds (y * 2 + e) (.int .i64 v) = rowC (updN F x y e v) x m := by
  unfold rowC
  apply Array.ext'
  simp only [Array.toList_setIfInBounds]
  apply List.ext_getElem
  · simp
  · intro j h1 h2
    simp only [List.length_set, List.length_map, List.length_range] at h1
    rw [List.getElem_set]
    simp only [List.getElem_map, List.getElem_range]
    by_cases h : y * 2 + e = j
    · subst h
      have h3 : (y * 2 + e) / 2 = y := by omega
      have h4 : (y * 2 + e) % 2 = e := by omega
      rw [if_pos rfl]
      unfold updN
      rw [if_pos ⟨rfl, h3, h4⟩]
    · rw [if_neg h]
      unfold updN
      rw [if_neg (fun hh => h (by omega))]
theorem rowC_other (F : Nat → Nat → Nat → Int) {x x' : Nat} (m y e : Nat) (v : Int) (h : x' ≠ x) : rowC (updN F x y e v) x' m = rowC F x' m := by
  unfold rowC
  congr 1
  refine List.map_congr_left fun j _ => ?_
  unfold updN
  rw [if_neg (fun hh => h hh.1)]
def rowV (m : Nat) (k : Nat) : Value := .slice (some ⟨k, 0, none⟩) m m
theorem bk_type {W : World} {k : Nat} {t t' : TypeId} {cs cs' : Array Value} (h : Bk W k t cs) (h' : Bk W k t' cs') : t = t' := by
  unfold Bk at h h'
  rw [h] at h'
  injection h' with h2
  injection h2
/-- Rows of the call's own: block O holds N rows, of which those in ks have been made, each of m pairs. -/
structure OB (W : World) (O N m : Nat) (ks : List Nat) (F : Nat → Nat → Nat → Int) : Prop where
  out : Bk W O 77 (ks.map (rowV m) ++ List.replicate (N - ks.length) (Value.slice none 0 0)).toArray
  len : ks.length ≤ N
  nodup : ks.Nodup
  rows : ∀ i k, ks[i]? = some k → Bk W k 76 (rowC F i m)
section
variable {W W' : World} {O N m : Nat} {ks : List Nat} {F : Nat → Nat → Nat → Int}
theorem OB.ne (h : OB W O N m ks F) {k : Nat} (hk : k ∈ ks) : k ≠ O := fun e => by
  obtain ⟨i, hi, he⟩ := List.getElem_of_mem hk
  have h1 := h.rows i k (by rw [List.getElem?_eq_getElem hi, he])
  have h2 := h.out
  rw [e] at h1
  exact absurd (bk_type h1 h2) (by decide)
/-- The block O and the rows lie as they lay. -/
theorem OB.same (h : OB W O N m ks F) (hO : W'.heap[O]? = W.heap[O]?) (hk : ∀ k ∈ ks, W'.heap[k]? = W.heap[k]?) : OB W' O N m ks F :=
  ⟨hO.trans h.out, h.len, h.nodup, fun i k hi => (hk k (List.mem_of_getElem? hi)).trans (h.rows i k hi)⟩
theorem OB.lt (h : OB W O N m ks F) : O < W.heap.size ∧ ∀ k ∈ ks, k < W.heap.size := ⟨h.out.lt, fun k hk => by
  obtain ⟨i, hi, he⟩ := List.getElem_of_mem hk
  exact (h.rows i k (by rw [List.getElem?_eq_getElem hi, he])).lt⟩
theorem OB.below (h : OB W O N m ks F) (hb : Below W.heap.size W W') : OB W' O N m ks F := h.same (hb.block O h.lt.1) (fun k hk => hb.block k (h.lt.2 k hk))
theorem OB.alloc (h : OB W O N m ks F) (o : Obj) : OB (W.alloc o) O N m ks F := h.below ((Below.refl _ W).alloc (Nat.le_refl _) o)
theorem OB.drewN (h : OB W O N m ks F) (k : Nat) : OB (W.drewN k) O N m ks F := ⟨h.out, h.len, h.nodup, h.rows⟩
theorem OB.drew (h : OB W O N m ks F) : OB W.drew O N m ks F := ⟨h.out, h.len, h.nodup, h.rows⟩
theorem OB.far (h : OB W O N m ks F) {p : Addr} (hO : O ≠ p.block) (hk : p.block ∉ ks) (u : Value) : OB (W.setCell p u) O N m ks F := h.same (Below.heap_setCell W p u O hO) (fun k hk' => Below.heap_setCell W p u k (fun e => hk (e ▸ hk')))
theorem OB.row (h : OB W O N m ks F) {i k : Nat} (hi : ks[i]? = some k) : W.cell? ⟨O, i, none⟩ = some (.slice (some ⟨k, 0, none⟩) m m) := by
  rw [h.out.cell i]
  obtain ⟨h1, h2⟩ := List.getElem?_eq_some_iff.1 hi
  simp [List.getElem?_append_left, h1, rowV, h2]
theorem OB.next (h : OB W O N m ks F) {i : Nat} (hi : ks.length = i) (hl : i < N) : W.cell? ⟨O, i, none⟩ = some (.slice none 0 0) := by
  subst hi
  rw [h.out.cell]
  rw [List.getElem?_toArray, List.getElem?_append_right (by simp), List.length_map, Nat.sub_self, List.getElem?_replicate, if_pos (by omega)]
theorem OB.num (h : OB W O N m ks F) {i k : Nat} (hi : ks[i]? = some k) {y e : Nat} (hy : y < m) (he : e < 2) : W.cell? ⟨k, y * 2 + e, none⟩ = some (.int .i64 (F i y e)) := by
  rw [(h.rows i k hi).cell]
  exact rowC_at F i hy he
theorem OB.frozen (h : OB W O N m ks F) {i k : Nat} (hi : ks[i]? = some k) (j : Nat) : W.frozen? ⟨k, j, none⟩ = false := (h.rows i k hi).frozen j
theorem OB.set_ (h : OB W O N m ks F) {i k : Nat} (hi : ks[i]? = some k) {y e : Nat} (hy : y < m) (he : e < 2) (v : Int) : OB (W.setCell ⟨k, y * 2 + e, none⟩ (.int .i64 v)) O N m ks (updN F i y e v) := by
  refine ⟨h.out.far (p := ⟨k, y * 2 + e, none⟩) (fun e' => h.ne (List.mem_of_getElem? hi) e'.symm) _, h.len, h.nodup, fun j l hj => ?_⟩
  by_cases hji : j = i
  · subst hji
    obtain rfl : l = k := Option.some.inj (hj.symm.trans hi)
    have h1 := (h.rows j l hj).set_ (y * 2 + e) (.int .i64 v)
    rw [rowC_set F j v hy he] at h1
    exact h1
  · have hne : l ≠ k := fun e' => by
      subst e'
      obtain ⟨a1, a2⟩ := List.getElem?_eq_some_iff.1 hj
      obtain ⟨b1, b2⟩ := List.getElem?_eq_some_iff.1 hi
      rcases Nat.lt_or_gt_of_ne hji with hlt | hlt
      · exact List.pairwise_iff_getElem.1 h.nodup j i a1 b1 hlt (a2.trans b2.symm)
      · exact List.pairwise_iff_getElem.1 h.nodup i j b1 a1 hlt (b2.trans a2.symm)
    rw [rowC_other F m y e v hji]
    exact (h.rows j l hj).far (p := ⟨k, y * 2 + e, none⟩) hne _
/-- One row more. -/
theorem OB.more (h : OB W O N m ks F) (hl : ks.length < N) {k : Nat} (hk : Bk W k 76 (rowC F ks.length m)) (hn : k ∉ ks) : OB (W.setCell ⟨O, ks.length, none⟩ (.slice (some ⟨k, 0, none⟩) m m)) O N m (ks ++ [k]) F := by
  have hOk : k ≠ O := fun e => by
    have h2 := h.out
    rw [e] at hk
    exact absurd (bk_type hk h2) (by decide)
  refine ⟨?_, by rw [List.length_append]; simp; omega, List.nodup_append.2 ⟨h.nodup, by simp, fun a ha b hb e => ?_⟩, fun i l hi => ?_⟩
  · have h1 := h.out.set_ ks.length (.slice (some ⟨k, 0, none⟩) m m)
    have e : ((ks.map (rowV m) ++ List.replicate (N - ks.length) (Value.slice none 0 0)).toArray).setIfInBounds ks.length (.slice (some ⟨k, 0, none⟩) m m) = ((ks ++ [k]).map (rowV m) ++ List.replicate (N - (ks ++ [k]).length) (Value.slice none 0 0)).toArray := by
      have e1 : N - ks.length = (N - (ks ++ [k]).length) + 1 := by rw [List.length_append]; simp; omega
      rw [e1, List.replicate_succ]
      apply Array.ext'
      simp only [Array.toList_setIfInBounds]
      rw [List.set_append_right _ _ (by simp)]
      simp [rowV]
    rw [e] at h1
    exact h1
  · rw [List.mem_singleton.1 hb] at e
    exact hn (e ▸ ha)
  · rcases Nat.lt_or_ge i ks.length with hlt | hge
    · rw [List.getElem?_append_left hlt] at hi
      exact (h.rows i l hi).far (p := ⟨O, ks.length, none⟩) (fun e => h.ne (List.mem_of_getElem? hi) e) _
    · have hi2 : i = ks.length := by
        have := (List.getElem?_eq_some_iff.1 hi).1
        rw [List.length_append] at this
        simp at this
        omega
      subst hi2
      rw [List.getElem?_append_right (Nat.le_refl _)] at hi
      simp at hi
      subst hi
      exact hk.far (p := ⟨O, ks.length, none⟩) hOk _
end
theorem addr0 (k j : Nat) : (⟨k, 0, none⟩ : Addr).add j = ⟨k, j, none⟩ := by
  unfold Addr.add
  split
  · rename_i h
    subst h
    rfl
  · simp
/-- The bounds that the rows hold. -/
def rowsOf (F : Nat → Nat → Nat → Int) (N m : Nat) : List (List (Int × Int)) := (List.range N).map fun x => (List.range m).map fun y => (F x y 0, F x y 1)
theorem pv_range (f g : Nat → Int) (m : Nat) : pv ((List.range m).map fun y => (f y, g y)) = (List.range (m * 2)).map fun j => Value.int .i64 (if j % 2 = 0 then f (j / 2) else g (j / 2)) := by
  apply List.ext_getElem
  · rw [pv_length]; simp
  · intro j h1 h2
    simp only [List.length_map, List.length_range] at h2
    have hp := pv_at ((List.range m).map fun y => (f y, g y)) (j / 2) (by simp; omega)
    have hp1 : plc ((List.range m).map fun y => (f y, g y)) (j / 2) = f (j / 2) ∧ too ((List.range m).map fun y => (f y, g y)) (j / 2) = g (j / 2) := plc_some (x := (f (j / 2), g (j / 2))) (by rw [List.getElem?_map, List.getElem?_range (by omega)]; rfl)
    rw [hp1.1, hp1.2] at hp
    simp only [List.getElem_map, List.getElem_range]
    rcases (by omega : j % 2 = 0 ∨ j % 2 = 1) with h | h
    · have e : j / 2 * 2 = j := by omega
      rw [e] at hp
      rw [if_pos h]
      exact Option.some.inj ((List.getElem?_eq_getElem h1).symm.trans hp.1)
    · have e : j / 2 * 2 + 1 = j := by omega
      rw [e] at hp
      rw [if_neg (by omega)]
      exact Option.some.inj ((List.getElem?_eq_getElem h1).symm.trans hp.2)
theorem OB.bd {W : World} {O N m : Nat} {ks : List Nat} {F : Nat → Nat → Nat → Int} (h : OB W O N m ks F) (hl : ks.length = N) : Bd W W.heap.size (some ⟨O, 0, none⟩) N (rowsOf F N m) := by
  refine ⟨ks.map (rowV m), ⟨by simp [hl], fun _ => ⟨_, rfl, h.lt.1, fun j hj => ?_⟩⟩, by simp [rowsOf, hl], fun i L hL => ?_⟩
  · simp only [List.length_map] at hj
    have h1 := h.row (List.getElem?_eq_getElem hj)
    rw [addr0]
    rw [h1]
    simp [rowV]
  · have hi : i < N := by
      have := (List.getElem?_eq_some_iff.1 hL).1
      simpa [rowsOf] using this
    have hL2 : L = (List.range m).map fun y => (F i y 0, F i y 1) := by
      have h1 : (rowsOf F N m)[i]? = some ((List.range m).map fun y => (F i y 0, F i y 1)) := by simp [rowsOf, hi]
      exact Option.some.inj (hL.symm.trans h1)
    subst hL2
    have hk : ks[i]? = some ks[i] := List.getElem?_eq_getElem (by omega)
    refine ⟨some ⟨ks[i], 0, none⟩, m, by simp [rowV, hl, hi], by simp, ?_⟩
    have hb := h.rows i _ hk
    simp only [List.length_map, List.length_range]
    refine ⟨by rw [pv_length]; simp, fun _ => ⟨_, rfl, hb.lt, fun j hj => ?_⟩⟩
    rw [addr0, hb.cell j]
    have e : pv ((List.range m).map fun y => (F i y 0, F i y 1)) = (rowC F i m).toList := by
      rw [pv_range]
      unfold rowC
      refine List.map_congr_left fun j _ => ?_
      rcases (by omega : j % 2 = 0 ∨ j % 2 = 1) with h | h
      · rw [if_pos h, h]
      · rw [if_neg (by omega), h]
    have hj2 : j < (rowC F i m).toList.length := by rw [← e]; exact hj
    rw [show (pv ((List.range m).map fun y => (F i y 0, F i y 1)))[j] = (rowC F i m).toList[j] from by simp only [e]]
    simp at hj2
    simp [hj2]
end Go.Proofs.Ytaekjnjignlmoaa
