/-
  Lists of moves that are being written.
-/
import Derived.Test.YtibmpjhffeinoaaGreatKh
namespace Go.Proofs.YtibmpjhffeinoaaGreat
open Go.RowKit Go.Shelf

theorem under_rowsi : Tryz.prog.underlying 29 = some (.slice 35) := by kernel_rfl
theorem info_rowi : (Tryz.prog.info? 35).map (fun i => (i.zero, i.size, i.bytes)) = some (some (.slice none 0 0), 1, 24) := by kernel_rfl
theorem run_rowsi (n : Nat) (hn : n ≤ 1000) (w : World) : (Instr.makeSlice 29 (.int .i64 (n : Int)) (.int .i64 (n : Int))).run Tryz.prog w = .ok (.slice (some ⟨w.heap.size, 0, none⟩) n n) (w.alloc (.cells (Array.replicate n (Value.slice none 0 0)) 35)) := by
  rw [run_make_row' 29 35 (.slice none 0 0) 24 under_rowsi info_rowi rfl .i64 .i64 n (by omega) (by omega) w]
  have : madeCells #[Value.slice none 0 0] n = (List.replicate n (Value.slice none 0 0)).toArray := by
    apply Array.ext
    · simp [madeCells]
    · intro i h1 h2
      simp [madeCells, Nat.mod_one]
  rw [this, List.toArray_replicate]
/-- The first position of a row. -/
def T (r : Nat) : Nat := r * (r + 1) / 2
theorem T_wrap {r : Nat} (h : r ≤ 4) : wrap64 ((wrap64 ((r : Int) * ((r : Int) + 1))).tdiv 2) = ((T r : Nat) : Int) := by
  have : r = 0 ∨ r = 1 ∨ r = 2 ∨ r = 3 ∨ r = 4 := by omega
  rcases this with rfl | rfl | rfl | rfl | rfl <;> decide +kernel
theorem T_wrap1 {r : Nat} (h : r ≤ 3) : wrap64 ((wrap64 (((r : Int) + 1) * ((r : Int) + 2))).tdiv 2) = ((T (r + 1) : Nat) : Int) := by
  have : r = 0 ∨ r = 1 ∨ r = 2 ∨ r = 3 := by omega
  rcases this with rfl | rfl | rfl | rfl <;> decide +kernel
theorem T_succ (r : Nat) (h : r ≤ 3) : T (r + 1) = T r + r + 1 := by
  have : r = 0 ∨ r = 1 ∨ r = 2 ∨ r = 3 := by omega
  rcases this with rfl | rfl | rfl | rfl <;> decide
theorem T_inj {r r' k k' : Nat} (h : r < 3) (h' : r' < 3) (hk : k ≤ r) (hk' : k' ≤ r') (e : T r' + k' = T r + k) : r' = r ∧ k' = k := by
  have h1 : r = 0 ∨ r = 1 ∨ r = 2 := by omega
  have h2 : r' = 0 ∨ r' = 1 ∨ r' = 2 := by omega
  have t0 : T 0 = 0 := rfl
  have t1 : T 1 = 1 := rfl
  have t2 : T 2 = 3 := rfl
  rcases h1 with rfl | rfl | rfl <;> rcases h2 with rfl | rfl | rfl <;> omega
theorem T_dec {rows j : Nat} (h : rows ≤ 3) (hj : j < T rows) : ∃ r k, r < rows ∧ k ≤ r ∧ j = T r + k := by
  have t0 : T 0 = 0 := rfl
  have t1 : T 1 = 1 := rfl
  have t2 : T 2 = 3 := rfl
  have t3 : T 3 = 6 := rfl
  have h1 : rows = 0 ∨ rows = 1 ∨ rows = 2 ∨ rows = 3 := by omega
  have h2 : j < 6 := by rcases h1 with rfl | rfl | rfl | rfl <;> omega
  by_cases a : j < 1
  · exact ⟨0, 0, by rcases h1 with rfl | rfl | rfl | rfl <;> omega, by omega, by omega⟩
  · by_cases b : j < 3
    · exact ⟨1, j - 1, by rcases h1 with rfl | rfl | rfl | rfl <;> omega, by omega, by omega⟩
    · exact ⟨2, j - 3, by rcases h1 with rfl | rfl | rfl | rfl <;> omega, by omega, by omega⟩
/-- The moves of a pin. -/
def mvs (Rt : Nat → Nat → Int) (r k : Nat) : List Int := (if Rt r k < 10 then [((T (r + 1) : Nat) : Int) + (k : Int)] else []) ++ (if 0 < Rt r k then [((T (r + 1) : Nat) : Int) + (k : Int) + 1] else [])
section
variable {Rt : Nat → Nat → Int} {r k : Nat} {x : Int}
theorem mvs_b (h : Rt r k = x) (h1 : x < 10) (h2 : 0 < x) : mvs Rt r k = [((T (r + 1) : Nat) : Int) + (k : Int), ((T (r + 1) : Nat) : Int) + (k : Int) + 1] := by
  unfold mvs
  rw [h, if_pos h1, if_pos h2]
  rfl
theorem mvs_l (h : Rt r k = x) (h1 : x < 10) (h2 : ¬ 0 < x) : mvs Rt r k = [((T (r + 1) : Nat) : Int) + (k : Int)] := by
  unfold mvs
  rw [h, if_pos h1, if_neg h2]
  rfl
theorem mvs_r (h : Rt r k = x) (h1 : ¬ x < 10) (h2 : 0 < x) : mvs Rt r k = [((T (r + 1) : Nat) : Int) + (k : Int) + 1] := by
  unfold mvs
  rw [h, if_neg h1, if_pos h2]
  rfl
end
theorem mvs_ris {Rt : Nat → Nat → Int} {r k N : Nat} (h : T (r + 1) + k + 1 < N) : risB N 0 (mvs Rt r k) = true := by
  unfold mvs
  split <;> split <;> simp [risB] <;> omega
/-- Rows of numbers. -/
def rowsB (Bv : Nat → Nat → Int) (rows : Nat) : List (List Int) := (List.range rows).map fun r => (List.range (r + 1)).map fun k => Bv r k
theorem rowsB_at {Bv : Nat → Nat → Int} {rows r : Nat} (h : r < rows) : (rowsB Bv rows)[r]? = some ((List.range (r + 1)).map fun k => Bv r k) := by
  unfold rowsB
  rw [List.getElem?_map, List.getElem?_range h]
  rfl
theorem rowB_at {Bv : Nat → Nat → Int} {r k : Nat} (h : k ≤ r) : ((List.range (r + 1)).map fun k => Bv r k)[k]? = some (Bv r k) := by
  rw [List.getElem?_map, List.getElem?_range (by omega)]
  rfl
/-- The first i places have their moves, the others none. -/
structure Fill (Rt : Nat → Nat → Int) (rows N i : Nat) (Ls : List (List Int)) : Prop where
  len : Ls.length = N
  at_ : ∀ r k, r < rows → k ≤ r → T r + k < i → Ls[T r + k]? = some (mvs Rt r k)
  no : ∀ j, i ≤ j → j < N → Ls[j]? = some []
theorem Fill.zero (Rt : Nat → Nat → Int) (rows N : Nat) : Fill Rt rows N 0 (List.replicate N []) := ⟨by simp, fun _ _ _ _ h => absurd h (Nat.not_lt_zero _), fun j _ hj => by simp [hj]⟩
theorem Fill.next {Rt : Nat → Nat → Int} {rows N r k : Nat} {Ls : List (List Int)} (h : Fill Rt rows N (T r + k) Ls) (h3 : rows ≤ 3) (hr : r < rows) (hk : k ≤ r) (hN : T r + k < N) : Fill Rt rows N (T r + k + 1) (Ls.set (T r + k) (mvs Rt r k)) := ⟨by rw [List.length_set]; exact h.len, fun r' k' hr' hk' hlt => by
  by_cases e : T r' + k' = T r + k
  · obtain ⟨rfl, rfl⟩ := T_inj (by omega) (by omega) hk hk' e
    rw [List.getElem?_set_self (by rw [h.len]; exact hN)]
  · rw [List.getElem?_set_ne (by omega)]
    exact h.at_ r' k' hr' hk' (by omega), fun j hj hjN => by
  rw [List.getElem?_set_ne (by omega)]
  exact h.no j (by omega) hjN⟩
theorem Fill.ris {Rt : Nat → Nat → Int} {rows N : Nat} {Ls : List (List Int)} (h : Fill Rt rows N (T rows) Ls) (h3 : rows ≤ 3) (hN : T rows + rows + 1 ≤ N) : ∀ L ∈ Ls, risB N 0 L = true := by
  intro L hL
  obtain ⟨j, hj, rfl⟩ := List.mem_iff_getElem.1 hL
  have hjN : j < N := by rw [← h.len]; exact hj
  have hg := List.getElem?_eq_getElem hj
  by_cases c : j < T rows
  · obtain ⟨r, k, h1, h2, h4⟩ := T_dec h3 c
    have h5 := h.at_ r k h1 h2 (by omega)
    rw [← h4, hg] at h5
    rw [Option.some.inj h5]
    refine mvs_ris ?_
    have h6 := T_succ r (by omega)
    have h7 : T (r + 1) ≤ T rows := by
      have t0 : T 0 = 0 := rfl
      have t1 : T 1 = 1 := rfl
      have t2 : T 2 = 3 := rfl
      have t3 : T 3 = 6 := rfl
      have e1 : r = 0 ∨ r = 1 ∨ r = 2 := by omega
      have e2 : rows = 1 ∨ rows = 2 ∨ rows = 3 := by omega
      rcases e1 with rfl | rfl | rfl <;> rcases e2 with rfl | rfl | rfl <;> omega
    omega
  · have h5 := h.no j (by omega) hjN
    rw [hg] at h5
    rw [Option.some.inj h5]
    rfl
/-- Rows of ints that are being written, in block g; the rows lie from block 'base' on. -/
structure MvI (w : World) (g base N : Nat) (Ls : List (List Int)) : Prop where
  len : Ls.length = N
  bk : ∃ cs : Array Value, Bk w g 35 cs ∧ cs.size = N ∧ ∀ (i : Nat) (L : List Int), Ls[i]? = some L → ∃ A' c', cs[i]? = some (Value.slice A' L.length c') ∧ L.length ≤ c' ∧ Ri w w.heap.size A' L.length L ∧ ∀ ad, A' = some ad → base ≤ ad.block
section
variable {w w' : World} {g base N i n c B : Nat} {Ls : List (List Int)} {A : Option Addr} {L xs : List Int} {p : Addr} {u : Value}
theorem Ri.far (h : Ri w B A n xs) (hne : ∀ ad, A = some ad → ad.block ≠ p.block) : Ri (w.setCell p u) B A n xs := ⟨h.1, fun hn => by
  obtain ⟨ad, e, hb, hc⟩ := h.2 hn
  refine ⟨ad, e, hb, fun j hj => ?_⟩
  rw [World.cell?_setCell_other w p (ad.add j) u (fun q => hne ad e (by rw [← addr_block ad j, q]))]
  exact hc j hj⟩
theorem MvI.lt (h : MvI w g base N Ls) : g < w.heap.size := by
  obtain ⟨cs, h1, _⟩ := h.bk
  exact h1.lt
theorem MvI.below (h : MvI w g base N Ls) (hb : Below w.heap.size w w') : MvI w' g base N Ls := by
  obtain ⟨cs, h1, h2, h3⟩ := h.bk
  refine ⟨h.len, cs, h1.below hb h1.lt, h2, fun i L hi => ?_⟩
  obtain ⟨A', c', e1, e2, e3, e4⟩ := h3 i L hi
  exact ⟨A', c', e1, e2, e3.next hb (Nat.le_refl _) hb.size, e4⟩
theorem MvI.put (h : MvI w g base N Ls) (hg : g < base) (hr : Ri w w.heap.size A L.length L) (hc : L.length ≤ c) (hA : ∀ ad, A = some ad → base ≤ ad.block) : MvI (w.setCell ⟨g, i, none⟩ (.slice A L.length c)) g base N (Ls.set i L) := by
  obtain ⟨cs, h1, h2, h3⟩ := h.bk
  have hsz : (w.setCell ⟨g, i, none⟩ (.slice A L.length c)).heap.size = w.heap.size := by simp [World.setCell]
  refine ⟨by rw [List.length_set]; exact h.len, cs.setIfInBounds i (.slice A L.length c), h1.set_ i _, by simp [h2], fun j M hj => ?_⟩
  by_cases e : i = j
  · subst e
    have hl : i < Ls.length := by
      have := (List.getElem?_eq_some_iff.1 hj).1
      rwa [List.length_set] at this
    rw [List.getElem?_set_self hl] at hj
    cases hj
    refine ⟨A, c, ?_, hc, ?_, hA⟩
    · rw [Array.getElem?_setIfInBounds_self_of_lt (by rw [h2, ← h.len]; exact hl)]
    · rw [hsz]
      exact hr.far fun ad ha => by have := hA ad ha; show ad.block ≠ g; omega
  · rw [List.getElem?_set_ne e] at hj
    obtain ⟨A', c', e1, e2, e3, e4⟩ := h3 j M hj
    refine ⟨A', c', ?_, e2, ?_, e4⟩
    · rw [Array.getElem?_setIfInBounds_ne e]; exact e1
    · rw [hsz]
      exact e3.far fun ad ha => by have := e4 ad ha; show ad.block ≠ g; omega
theorem Oj.cap {base : Nat} (h : Oj w base A n c xs) : n ≤ c := by
  rcases h.2 with ⟨e, _⟩ | ⟨g, cap, cur, e, _, _, h1, _⟩
  · cases e; exact Nat.le_refl _
  · cases e; exact h1
theorem MvI.putOj {b' : Nat} (h : MvI w g base N Ls) (hg : g < base) (ho : Oj w b' A n c L) (hb : base ≤ b') (hn : L.length = n) : MvI (w.setCell ⟨g, i, none⟩ (.slice A n c)) g base N (Ls.set i L) := by
  subst hn
  refine h.put hg ho.ri ho.cap fun ad e => ?_
  have := ho.lt ad.block (by rw [e]; rfl)
  omega
theorem MvI.cell (h : MvI w g base N Ls) (hi : i < N) : ∃ A' n' c', w.cell? ⟨g, i, none⟩ = some (.slice A' n' c') ∧ w.frozen? ⟨g, i, none⟩ = false := by
  obtain ⟨cs, h1, h2, h3⟩ := h.bk
  obtain ⟨A', c', e1, _⟩ := h3 i (Ls[i]'(by rw [h.len]; exact hi)) (List.getElem?_eq_getElem _)
  exact ⟨A', _, c', by rw [h1.cell]; exact e1, h1.frozen i⟩
theorem MvI.mv (h : MvI w g base N Ls) : Mv w w.heap.size (some ⟨g, 0, none⟩) N Ls := ⟨h.len, fun i L hi => by
  obtain ⟨cs, h1, h2, h3⟩ := h.bk
  obtain ⟨A', c', e1, e2, e3, _⟩ := h3 i L hi
  exact ⟨_, A', c', rfl, h1.lt, by rw [add_lit0, h1.cell]; exact e1, e2, e3⟩⟩
theorem MvI.new (h : Bk w g 35 (Array.replicate N (Value.slice none 0 0))) : MvI w g base N (List.replicate N []) := ⟨by simp, _, h, by simp, fun i L hi => by
  obtain ⟨h1, h2⟩ := List.getElem?_eq_some_iff.1 hi
  simp only [List.length_replicate] at h1
  simp only [List.getElem_replicate] at h2
  subst h2
  exact ⟨none, 0, by simp [h1], Nat.le_refl _, Ri.nil_ _, fun ad e => by cases e⟩⟩
theorem MvI.setOther (h : MvI w g base N Ls) (h1 : p.block ≠ g) (h2 : p.block < base) : MvI (w.setCell p u) g base N Ls := by
  obtain ⟨cs, k1, k2, k3⟩ := h.bk
  have hsz : (w.setCell p u).heap.size = w.heap.size := by simp [World.setCell]
  refine ⟨h.len, cs, k1.far (fun e => h1 e.symm) u, k2, fun i L hi => ?_⟩
  obtain ⟨A', c', e1, e2, e3, e4⟩ := k3 i L hi
  refine ⟨A', c', e1, e2, ?_, e4⟩
  rw [hsz]
  exact e3.far fun ad ha => by have := e4 ad ha; omega
end
/-- One place is true. -/
def wonL (n p : Nat) : List Bool := (List.range n).map fun i => decide (i = p)
theorem wonL_set (n p : Nat) : (Array.replicate n (Value.bool false)).setIfInBounds p (.bool true) = bools (wonL n p) := by
  apply Array.ext
  · simp [bools, wonL]
  · intro i h1 h2
    rw [Array.getElem_setIfInBounds]
    · simp only [bools, wonL, List.map_map, List.getElem_toArray, List.getElem_map, List.getElem_range, Function.comp]
      split
      · subst_vars; simp
      · rename_i hne
        rw [Array.getElem_replicate, decide_eq_false (fun e => hne e.symm)]
    · simpa [bools, wonL] using h2
theorem wonL_len (n p : Nat) : (wonL n p).length = n := by simp [wonL]
theorem two_a (w : World) (t1 t2 : TypeId) (c1 c2 : Array Value) : Bk ((w.alloc (.cells c1 t1)).alloc (.cells c2 t2)).drew w.heap.size t1 c1 := (Bk.new w t1 c1).alloc _
theorem two_b (w : World) (t1 t2 : TypeId) (c1 c2 : Array Value) : Bk ((w.alloc (.cells c1 t1)).alloc (.cells c2 t2)).drew (w.heap.size + 1) t2 c2 := by
  have := Bk.new (w.alloc (.cells c1 t1)) t2 c2
  rw [World.size_alloc] at this
  exact this
theorem two_c (w : World) (o1 o2 : Obj) : Below w.heap.size w ((w.alloc o1).alloc o2).drew := below_drewN (((Below.refl w.heap.size w).alloc (Nat.le_refl _) o1).alloc (by simp) o2) 1
end Go.Proofs.YtibmpjhffeinoaaGreat
