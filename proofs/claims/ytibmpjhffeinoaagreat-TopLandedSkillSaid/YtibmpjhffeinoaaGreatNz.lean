/-
  TopLandedSkill: every machine: joined.
  A machine that comes in: its table and its prizes in memory.
-/
import Derived.Test.YtibmpjhffeinoaaGreatNp
import Derived.Test.YtibmpjhffeinoaaGreatTRow
import Derived.Deep.Slices
import Derived.Lib.SmallJoins
namespace Go.Proofs.YtibmpjhffeinoaaGreat
open Go.RowKit Go.Shelf

section
variable {AN AP : Option Addr} {n cN np cP : Nat} {S : Int} {Ls : List (List Int)} {ys : List Int} {w : World}
/-- The calls of the law, for a valid machine. -/
theorem csl_of (hw : ∀ w', Calls Tryz.prog 11 #[] w' fun e w'' => e = .returned (.bool true) ∧ Below w'.heap.size w' w'') (hmv : Mv w w.heap.size AN n Ls) (hri : Ri w w.heap.size AP np ys) (hv : ValM S Ls ys) {p : Nat} {part : List Int} (hp : (partsL (nn2 Ls) n n)[p]? = some part) :
    CsL w (.agg #[.int .i64 S, .slice AN n cN, .slice AP np cP]) n p (partsL (nn2 Ls) n n).length (partsL (nn2 Ls) n n) fun i => landR S (nn2 Ls) (partsL (nn2 Ls) n n) n i p := by
  have hl := hmv.1
  obtain rfl : n = np := by
    have h1 := hri.len
    have h2 := hv.1.2.2.1
    omega
  have hn4 : n ≤ 4 := by have h1 := hv.1.1.2; omega
  have hn1 : 0 < n := by have h1 := hv.1.1.1; omega
  have hmvs : ∀ i, i < n → ∃ k, k < n ∧ 0 < nn2 Ls i k := by rw [← hl]; exact val_mv hv
  have hS := hv.1.2.2.2.1
  have hN : ∀ i k, i < n → k < n → 0 ≤ nn2 Ls i k ∧ nn2 Ls i k ≤ 20 := fun i k hi hk => by
    have := val_nn hv (show i < Ls.length by omega) (show k < Ls.length by omega)
    omega
  have hrow : ∀ x, x < n → ((List.range n).map fun k => nn2 Ls x k).sum = S := by rw [← hl]; exact val_row hv
  have hpl : 0 < (partsL (nn2 Ls) n n).length := by
    have := (List.getElem?_eq_some_iff.1 hp).1
    omega
  have hpp : p < (partsL (nn2 Ls) n n).length := (List.getElem?_eq_some_iff.1 hp).1
  have hmw : ∀ w', Below w.heap.size w w' → Mv w' w'.heap.size AN n Ls := fun w' hb => (hmv.below hb).more hb.size
  have hrw : ∀ w', Below w.heap.size w w' → Ri w' w'.heap.size AP n ys := fun w' hb => (hri.below hb).more hb.size
  refine ⟨fun w' hb => ?_, fun w' hb => ?_, fun w' hb => ?_, fun w' hb i hi => ?_, hw⟩
  · refine (rCheckM AN AP n cN n cP S Ls ys w' (hmw w' hb) (hrw w' hb)).mono fun e w'' h => ?_
    obtain ⟨r, rfl, hr, hb2⟩ := h
    rw [hr.2 hv]
    exact ⟨rfl, hb2⟩
  · refine (fParts AN AP n cN cP S Ls ys w' (hmw w' hb) (hrw w' hb) hv hpl).mono fun e w'' h => ?_
    obtain ⟨A, nq, rfl, h1, hb2⟩ := h
    obtain rfl := h1.1
    exact ⟨A, rfl, h1, hb2⟩
  · refine (rPartsOf AN AP n cN n cP S Ls w' (hmw w' hb) hn4 (fun L hL => by rw [hv.1.2.1 L hL, hl]) (nn2 Ls) fun _ _ => rfl).mono fun e w'' h => ?_
    obtain ⟨A, m, c, rfl, h1, hb2⟩ := h
    have h2 := h1.mv
    rw [(rpt_parts hn4 hmvs n (Nat.le_refl _)).1] at h2
    obtain rfl := h2.1
    exact ⟨A, c, rfl, h2, hb2⟩
  · obtain ⟨hden, hfair⟩ := fair_all hn4 hn1 hmvs (fun i k hi hk => (hN i k hi hk).1) hrow hp
    obtain ⟨hb3, hb4, hb5⟩ := land_b (S := S) hn4 hn1 hmvs (by omega) hN hp
    have hfl : 0 < (partsL (nn2 Ls) n n).flatten.length := by
      obtain ⟨L, hL, j, hj, _⟩ := reach_part hn4 hmvs hn1
      exact List.length_pos_of_mem (List.mem_flatten.2 ⟨L, hL, hj⟩)
    exact fLands AN AP n cN cP i p S Ls ys _ w' (hmw w' hb) (hrw w' hb) hv rfl hi hpp hfl (fun L hL => part_len hL) (fun L hL x hx => part_nat hL hx) hb3 hN (fun hu => ⟨(hfair i hu).1, hb5 i⟩) ⟨hden, hb4⟩
/-- A valid machine. -/
theorem landed_valid (hw : ∀ w', Calls Tryz.prog 11 #[] w' fun e w'' => e = .returned (.bool true) ∧ Below w'.heap.size w' w'') (hmv : Mv w w.heap.size AN n Ls) (hri : Ri w w.heap.size AP np ys) (hv : ValM S Ls ys) (lv : Int) (hlv : 0 ≤ lv ∧ lv ≤ 255) :
    Calls Tryz.prog 3 #[.agg #[.int .i64 S, .slice AN n cN, .slice AP np cP], .int .u8 lv] w fun e w' => e = .returned (.bool true) ∧ Below w.heap.size w w' := by
  have hl := hmv.1
  have hn4 : n ≤ 4 := by have h1 := hv.1.1.2; omega
  have hn1 : 1 ≤ n := by have h1 := hv.1.1.1; omega
  have hmvs : ∀ i, i < n → ∃ k, k < n ∧ 0 < nn2 Ls i k := by rw [← hl]; exact val_mv hv
  have hN : ∀ i k, i < n → k < n → 0 ≤ nn2 Ls i k := fun i k hi hk => (val_nn hv (show i < Ls.length by omega) (show k < Ls.length by omega)).1
  have hrow : ∀ x, x < n → ((List.range n).map fun k => nn2 Ls x k).sum = S := by rw [← hl]; exact val_row hv
  have hpl : 0 < (partsL (nn2 Ls) n n).length := by
    obtain ⟨L, hL, _⟩ := reach_part hn4 hmvs hn1
    exact List.length_pos_of_mem hL
  have hp4 := partsL_len (nn2 Ls) n n
  obtain ⟨p, hpe⟩ : ∃ p : Nat, (p : Int) = lv % ((partsL (nn2 Ls) n n).length : Int) := by
    have h0 : 0 ≤ lv % ((partsL (nn2 Ls) n n).length : Int) := Int.emod_nonneg _ (by omega)
    exact ⟨(lv % ((partsL (nn2 Ls) n n).length : Int)).toNat, by omega⟩
  have hpp : p < (partsL (nn2 Ls) n n).length := by
    have h2 : lv % ((partsL (nn2 Ls) n n).length : Int) < ((partsL (nn2 Ls) n n).length : Int) := Int.emod_lt_of_pos _ (by omega)
    omega
  obtain ⟨part, hp⟩ : ∃ part, (partsL (nn2 Ls) n n)[p]? = some part := ⟨_, List.getElem?_eq_getElem hpp⟩
  exact fLanded AN AP n cN np cP p _ S lv Ls _ _ part w hn1 hn4 hlv hmv (fun L hL => by rw [hv.1.2.1 L hL, hl]) rfl hpl (by omega) (fun L hL => part_len hL) hpe hp (fun x hx => part_nat (part_of hp) hx) (csl_of hw hmv hri hv hp) (fun K hf i hi => land_D hn4 hn1 hmvs hN hrow hp K hf i hi) (fun K _ i hi h => land_E hn4 hn1 hmvs hN hrow hp K i hi h)
set_option maxRecDepth 100000 in
set_option maxHeartbeats 1600000 in
/-- More than eight states. -/
theorem landed_big (hw : ∀ w', Calls Tryz.prog 11 #[] w' fun e w'' => e = .returned (.bool true) ∧ Below w'.heap.size w' w'') (h8 : ¬ n ≤ 8) (lv : Int) :
    Calls Tryz.prog 3 #[.agg #[.int .i64 S, .slice AN n cN, .slice AP np cP], .int .u8 lv] w fun e w' => e = .returned (.bool true) ∧ Below w.heap.size w w' := by
  have hbk := Bk.new w 25 #[.int .i64 S, .slice AN n cN, .slice AP np cP]
  have hb1 := (Below.refl w.heap.size w).alloc (Nat.le_refl _) (.cells #[.int .i64 S, .slice AN n cN, .slice AP np cP] 25)
  generalize hW : w.alloc (.cells #[.int .i64 S, .slice AN n cN, .slice AP np cP] 25) = W at *
  have c1 : W.cell? ⟨w.heap.size, 1, none⟩ = some (.slice AN n cN) := hbk.cell 1
  have hwk := hw W
  have h9 : 8 < n := by omega
  have hs := hb1.size
  clear hw h8 hbk
  go_enter Tryz.func3, Tryz.ntmps3
  go_wp2_with (go_at_call 11; go_must (refine (hwk).mono ?_); rintro e w6 ⟨rfl, hb15⟩)
  go_ret
  exact ⟨rfl, hb1.trans (hb15.mono (by omega))⟩
set_option maxRecDepth 100000 in
set_option maxHeartbeats 1600000 in
/-- A machine that is not valid. -/
theorem landed_not (hw : ∀ w', Calls Tryz.prog 11 #[] w' fun e w'' => e = .returned (.bool true) ∧ Below w'.heap.size w' w'') (hmv : Mv w w.heap.size AN n Ls) (hri : Ri w w.heap.size AP np ys) (hv : ¬ ValM S Ls ys) (h8 : n ≤ 8) (lv : Int) :
    Calls Tryz.prog 3 #[.agg #[.int .i64 S, .slice AN n cN, .slice AP np cP], .int .u8 lv] w fun e w' => e = .returned (.bool true) ∧ Below w.heap.size w w' := by
  have hbk := Bk.new w 25 #[.int .i64 S, .slice AN n cN, .slice AP np cP]
  have hb1 := (Below.refl w.heap.size w).alloc (Nat.le_refl _) (.cells #[.int .i64 S, .slice AN n cN, .slice AP np cP] 25)
  have hc : ∀ w', Below w.heap.size w w' → Calls Tryz.prog 10 #[.agg #[.int .i64 S, .slice AN n cN, .slice AP np cP]] w' fun e w'' => ∃ r : Int, e = .returned (.int .i64 r) ∧ Hid (¬ r = 0) ∧ Below w'.heap.size w' w'' := fun w' hb => (rCheckM AN AP n cN np cP S Ls ys w' ((hmv.below hb).more hb.size) ((hri.below hb).more hb.size)).mono fun e w'' h => by
    obtain ⟨r, rfl, hr, hb2⟩ := h
    exact ⟨r, rfl, Lib.hid fun h => hv (hr.1 h), hb2⟩
  have h80 : decide ((8 : Int) < (n : Int)) = false := decide_eq_false (by omega)
  have HCK := Lib.hid hc
  have HWK := Lib.hid hw
  generalize hW : w.alloc (.cells #[.int .i64 S, .slice AN n cN, .slice AP np cP] 25) = W at *
  have c0 : W.cell? ⟨w.heap.size, 0, none⟩ = some (.int .i64 S) := hbk.cell 0
  have c1 : W.cell? ⟨w.heap.size, 1, none⟩ = some (.slice AN n cN) := hbk.cell 1
  have c2 : W.cell? ⟨w.heap.size, 2, none⟩ = some (.slice AP np cP) := hbk.cell 2
  have hs := hb1.size
  clear hw hc hbk hmv hri hv
  go_enter Tryz.func3, Tryz.ntmps3
  go_wp2_with (go_at_call 10; refine (HCK.out _ hb1).mono ?_; rintro e w1 ⟨r, rfl, HR, hb2⟩; have hr0 : (r != 0) = true := bne_iff_ne.2 HR.out; have hwk := HWK.out w1; have hb3 := hb1.trans (hb2.mono (by omega)); have hs2 := hb2.size; clear hb1 hb2 c0 c1 c2)
  go_wp2_with (go_at_call 11; go_must (refine (hwk).mono ?_); rintro e w6 ⟨rfl, hb15⟩)
  go_ret
  exact ⟨rfl, hb3.trans (hb15.mono (by omega))⟩
end
/-- Every machine, every number. -/
theorem landed_all (hw : ∀ w', Calls Tryz.prog 11 #[] w' fun e w'' => e = .returned (.bool true) ∧ Below w'.heap.size w' w'') {AN AP : Option Addr} {n cN np cP : Nat} {S : Int} {Ls : List (List Int)} {ys : List Int} {w : World} (hmv : Mv w w.heap.size AN n Ls) (hri : Ri w w.heap.size AP np ys) (lv : Int) (hlv : 0 ≤ lv ∧ lv ≤ 255) :
    Calls Tryz.prog 3 #[.agg #[.int .i64 S, .slice AN n cN, .slice AP np cP], .int .u8 lv] w fun e w' => e = .returned (.bool true) ∧ Below w.heap.size w w' := by
  by_cases h8 : n ≤ 8
  · by_cases hv : ValM S Ls ys
    · exact landed_valid hw hmv hri hv lv hlv
    · exact landed_not hw hmv hri hv h8 lv
  · exact landed_big hw h8 lv
end Go.Proofs.YtibmpjhffeinoaaGreat

namespace Go.Proofs.YtibmpjhffeinoaaGreat
open Go.ChangeShapes Go.WideShapes Go.ChangeAt Go.RowKit Go.Deep Go.Joins

section
variable {H : Type} {enc : TypeId × Value → H}
theorem cell_lt {W : World} {a : Addr} {u : Value} (h : W.cell? a = some u) : a.block < W.heap.size := by
  unfold World.cell? at h
  split at h
  · rename_i hg
    exact (Array.getElem?_eq_some_iff.1 hg).1
  · cases h
/-- A row of numbers. -/
theorem row_ri {t e : TypeId} {W : World} {fuel : Nat} {v : Value} {x : DataW H × List MemPlace} (ht : Tryz.prog.underlying t = some (.slice e)) (he : Tryz.prog.underlying e = some (.int .i64)) (hc : Tryz.prog.cellsOf e = 1) (h : DataW.trod enc Tryz.prog W 0 (fun _ => true) true fuel t [v] = some x) :
    ∃ (A : Option Addr) (c : Nat) (xs : List Int), v = .slice A xs.length c ∧ xs.length ≤ c ∧ Ri W W.heap.size A xs.length xs := by
  rcases open_ints ht he hc h with ⟨hcs, _⟩ | ⟨a, len, cap, zs, hcs, _, hl, _, hz, _, hcell, _⟩
  · simp at hcs
    exact ⟨none, 0, [], hcs, Nat.le_refl _, rfl, fun h => absurd h (Nat.lt_irrefl _)⟩
  · simp at hcs
    simp only [if_true] at hz
    have hlen : (zs.take len).length = len := by rw [List.length_take]; omega
    refine ⟨some a, cap, zs.take len, by rw [hlen]; exact hcs, by omega, by simp [ints], fun h0 => ⟨a, rfl, ?_, fun j hj => ?_⟩⟩
    · rw [hlen] at h0
      have h1 := cell_lt (hcell 0 (by omega))
      rw [addr_block] at h1
      exact h1
    · rw [ints_length, hlen] at hj
      rw [hcell j (by omega)]
      simp only [ints, List.getElem_map, List.getElem_take]
      rw [List.getD_eq_getElem?_getD, List.getElem?_eq_getElem (by omega)]
      rfl
/-- A table of numbers. -/
theorem row_mv {W : World} {fuel : Nat} {v : Value} {x : DataW H × List MemPlace} (h : DataW.trod enc Tryz.prog W 0 (fun _ => true) true fuel 22 [v] = some x) :
    ∃ (A : Option Addr) (n c : Nat) (Ls : List (List Int)), v = .slice A n c ∧ Mv W W.heap.size A n Ls := by
  rcases open_slice1 (t := 22) (e := 23) (by kernel_rfl) (by kernel_rfl) h with ⟨hc, _⟩ | ⟨a, len, cap, m, n, V, D, Pl, hc, _, hl, _, hmm, _, hall⟩
  · simp at hc
    exact ⟨none, 0, 0, [], hc, rfl, fun i L h => by simp at h⟩
  · simp at hc
    simp only [if_true] at hmm
    have hmm2 := hmm.symm
    subst hmm2
    obtain ⟨f, hf⟩ := choose_lt (α := List Int) (n := len) (p := fun i L => ∃ A' c', V i = Value.slice A' L.length c' ∧ L.length ≤ c' ∧ Ri W W.heap.size A' L.length L) (fun i hi => by
      obtain ⟨A', c', L, h1, h2, h3⟩ := row_ri (t := 23) (e := 2) (by kernel_rfl) (by kernel_rfl) (by kernel_rfl) (hall i (by omega)).2
      exact ⟨L, A', c', h1, h2, h3⟩)
    refine ⟨some a, len, cap, (List.range len).map f, hc, by simp, fun i L hL => ?_⟩
    have hi := (List.getElem?_eq_some_iff.1 hL).1
    simp only [List.length_map, List.length_range] at hi
    rw [List.getElem?_map, List.getElem?_range hi] at hL
    obtain rfl : f i = L := by simpa using hL
    obtain ⟨A', c', h1, h2, h3⟩ := hf i hi
    have h4 := (hall i (by omega)).1
    have h5 := cell_lt h4
    rw [addr_block] at h5
    rw [h1] at h4
    exact ⟨a, A', c', rfl, h5, h4, h2, h3⟩
set_option maxRecDepth 100000 in
theorem row_wheel {W : World} {base : Nat} {v : Value} {d : DataW H} {p : List MemPlace} (hok : Value.okWide Tryz.prog W .any base 25 v) (h : DataW.Trod enc Tryz.prog W 0 (fun _ => true) true 25 v d p) :
    ∃ (S : Int) (AN : Option Addr) (n cN : Nat) (AP : Option Addr) (np cP : Nat) (Ls : List (List Int)) (ys : List Int), v = .agg #[.int .i64 S, .slice AN n cN, .slice AP np cP] ∧ Mv W W.heap.size AN n Ls ∧ Ri W W.heap.size AP np ys := by
  obtain ⟨c0, c1, c2, y0, y1, y2, m, rfl, _, _, h0, h1, h2⟩ := open_agg3 Tryz.underlying25 (by kernel_rfl) (by kernel_rfl) hok h
  obtain ⟨AN, n, cN, Ls, rfl, hmv⟩ := row_mv h1
  obtain ⟨AP, cP, ys, rfl, _, hri⟩ := row_ri (t := 23) (e := 2) (by kernel_rfl) (by kernel_rfl) (by kernel_rfl) h2
  obtain ⟨S, hS, _, _⟩ := DataW.trod_int (t := 2) (k := .i64) (by kernel_rfl) h0
  have hS' : c0 = .int .i64 S := by simpa using hS
  exact ⟨S, AN, n, cN, AP, _, cP, Ls, ys, by rw [hS'], hmv, hri⟩
end
end Go.Proofs.YtibmpjhffeinoaaGreat
