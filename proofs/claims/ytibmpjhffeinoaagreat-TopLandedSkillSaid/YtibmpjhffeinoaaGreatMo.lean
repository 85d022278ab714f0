/-
  wheel: 'Lands' of a valid machine.
-/
import Derived.Test.YtibmpjhffeinoaaGreatMn
namespace Go.Proofs.YtibmpjhffeinoaaGreat
open Go.RowKit Go.Shelf Go.Maps

/-- A fraction is returned, and what a slot holds. -/
theorem ret_ratio2 {fn : Func} {R : Ending → World → Prop} {a : Act} {w : World} {p u : Tmp} {g : Nat} {x y : Value} (h : fn.results = #[.cell p 39, .tmp u]) (hp : a.tmps.getD p undef = .pointer (some ⟨g, 0, none⟩)) (hb : Bk w g 39 #[x, y]) (hd : a.defers = []) (hR : R (.returned (.tuple #[.agg #[x, y], a.tmps.getD u undef])) w) : bodyPost Tryz.prog fn R .ret a w := by
  refine bodyPost_ret ?_ hd hR
  rw [results_cell_tmp h, hp]
  simp [asAddr, Result.andThen, run_loadVar_row w g _ 39 #[x, y] (0, 0) _ hb Tryz.underlying39 rfl size_ratio]
theorem within_one (hi x : Int) (w : World) (A : Addr) (hx : w.cell? A = some (.int .i64 x)) (hA : A.block < w.heap.size) (h : 0 ≤ x ∧ x ≤ hi) :
    Calls Tryz.prog 59 #[.int .i64 0, .int .i64 hi, .slice (some A) 1 1] w fun e w' => e = .returned (.bool true) ∧ Below w.heap.size w w' := by
  have hri : Ri w w.heap.size (some A) 1 [x] := ⟨rfl, fun _ => ⟨A, rfl, hA, fun j hj => by
    have : j = 0 := by simp [ints] at hj; omega
    subst this
    exact hx⟩⟩
  have hH : Hid ([x].any (outB 0 hi) = false) := Lib.hid (by
    have h1 : ¬ x < 0 := by omega
    have h2 : ¬ hi < x := by omega
    simp [outB, h1, h2])
  exact (wWithin 0 hi (some A) 1 1 [x] w hri (by omega) false hH).mono fun e w' ⟨h1, h2, _⟩ => ⟨h1, h2⟩
set_option maxRecDepth 100000 in
set_option maxHeartbeats 3200000 in
theorem fLands (AN AP : Option Addr) (n cN cP i p : Nat) (S : Int) (Ls : List (List Int)) (ys : List Int) (P : List (List Int)) (w : World) (hmv : Mv w w.heap.size AN n Ls) (hri : Ri w w.heap.size AP n ys) (hv : ValM S Ls ys) (hPP : partsL (nn2 Ls) n n = P) (hi : i < n) (hp : p < P.length)
    (h0 : 0 < P.flatten.length) (hl : ∀ L ∈ P, L.length ≤ 4) (hlt : ∀ L ∈ P, ∀ x ∈ L, ∃ k : Nat, x = k ∧ k < n) (hm : (opL P n).length ≤ 3) (hN : ∀ i k, i < n → k < n → 0 ≤ nn2 Ls i k ∧ nn2 Ls i k ≤ 20)
    (hnum : (i : Int) ∈ opL P n → 0 ≤ numL S (nn2 Ls) P n i p ∧ numL S (nn2 Ls) P n i p ≤ 100000000) (hden : 0 < denL S (nn2 Ls) P n ∧ denL S (nn2 Ls) P n ≤ 100000000) :
    Calls Tryz.prog 16 #[.agg #[.int .i64 S, .slice AN n cN, .slice AP n cP], .int .i64 (i : Int), .int .i64 (p : Int)] w fun e w' => e = .returned (.tuple #[.agg #[.int .i64 (landR S (nn2 Ls) P n i p).1, .int .i64 (landR S (nn2 Ls) P n i p).2], .int .i64 0]) ∧ Below w.heap.size w w' := by
  have hn4 : n ≤ 4 := by have h1 := hv.1.1.2; have h2 := hmv.1; omega
  have hS : 0 ≤ S ∧ S ≤ 20 := by have := hv.1.2.2.2.1; omega
  have HV := Lib.hid hv
  have HPP := Lib.hid hPP
  have HH := Lib.hid (And.intro h0 (And.intro hl (And.intro hlt (And.intro hm (And.intro hN (And.intro hnum hden))))))
  have HQ4 : Hid (P.length ≤ 4) := Lib.hid (by rw [← hPP]; exact Nat.le_trans (partsL_len _ n n) hn4)
  clear hv hPP h0 hl hlt hm hN hnum hden
  have hb1 := ((Below.refl w.heap.size w).alloc (Nat.le_refl _) (.cells #[.int .i64 S, .slice AN n cN, .slice AP n cP] 25)).alloc (by simp) (.cells #[.int .i64 0, .int .i64 0] 39)
  have hbk := (Bk.new w 25 #[.int .i64 S, .slice AN n cN, .slice AP n cP]).alloc (.cells #[.int .i64 0, .int .i64 0] 39)
  have hR1 := Bk.new (w.alloc (.cells #[.int .i64 S, .slice AN n cN, .slice AP n cP] 25)) 39 #[.int .i64 0, .int .i64 0]
  rw [World.size_alloc] at hR1
  have hs1 : ((w.alloc (.cells #[.int .i64 S, .slice AN n cN, .slice AP n cP] 25)).alloc (.cells #[.int .i64 0, .int .i64 0] 39)).heap.size = w.heap.size + 2 := by simp
  generalize hW : (w.alloc (.cells #[.int .i64 S, .slice AN n cN, .slice AP n cP] 25)).alloc (.cells #[.int .i64 0, .int .i64 0] 39) = W at *
  have hmv1 := (hmv.below hb1).more (B' := W.heap.size) (by omega)
  have hri1 := (hri.below hb1).more (B' := W.heap.size) (by omega)
  have c0 : W.cell? ⟨w.heap.size, 0, none⟩ = some (.int .i64 S) := hbk.cell 0
  have c1 : W.cell? ⟨w.heap.size, 1, none⟩ = some (.slice AN n cN) := hbk.cell 1
  have c2 : W.cell? ⟨w.heap.size, 2, none⟩ = some (.slice AP n cP) := hbk.cell 2
  have hop := Lib.hid (fWOpen AN AP n cN cP S Ls ys W hmv1 hri1 HV.out)
  have hsz : w.heap.size + 2 ≤ W.heap.size := by omega
  obtain ⟨res, HRes⟩ : ∃ res, Hid (landR S (nn2 Ls) P n i p = res) := ⟨_, Lib.hid rfl⟩
  rw [HRes.out]
  clear hmv hri hmv1 hri1 hs1
  go_enter Tryz.func16, Tryz.ntmps16
  go_wp2_with fail
  refine hop.out.mono ?_
  rintro e w2 ⟨g, rfl, mb, cnt, D, AQ, nq, cq, hBen, hPts, hgw, hb2⟩
  rw [HPP.out] at hPts
  have hnq := hPts.len
  have d1 := (hb2.cell (p := ⟨w.heap.size, 1, none⟩) (by show w.heap.size < _; omega)).trans c1
  have e2 := hBen.c2
  have c4 := hBen.c4
  have hR2 := hR1.below hb2 (by omega)
  have hb3 := hb1.trans (hb2.mono (by omega))
  have hs2 := hb2.size
  have HBen := Lib.hid hBen
  have HPts := Lib.hid hPts
  have hq4 : nq ≤ 4 := by rw [← hnq]; exact HQ4.out
  have hpq : p < nq := by omega
  have h1n : 1 ≤ n := by omega
  have hgl := hBen.bk.lt
  clear hop hBen hPts hb1 hb2 c0 c1 c2 hnq hp
  go_wp2_with fail
  refine (within_one ((n : Int) - 1) (i : Int) _ ⟨w2.heap.size, 0, none⟩ (cell_new1 _ _ _) (by simp) (by omega)).mono ?_
  rintro e w3 ⟨rfl, hb4⟩
  have hb5 : Below w2.heap.size w2 w3 := ((Below.refl w2.heap.size w2).alloc (Nat.le_refl _) (.cells #[.int .i64 (i : Int)] 2)).trans (hb4.mono (by simp))
  have c43 := (HBen.out.below hb5).c4
  have hs5 := hb5.size
  clear hb4 d1 e2 c4
  go_wp2_with fail
  refine (within_one ((nq : Int) - 1) (p : Int) _ ⟨w3.heap.size, 0, none⟩ (cell_new1 _ _ _) (by simp) (by omega)).mono ?_
  rintro e w4 ⟨rfl, hb6⟩
  have hb7 : Below w2.heap.size w2 w4 := hb5.trans (((Below.refl w3.heap.size w3).alloc (Nat.le_refl _) (.cells #[.int .i64 (p : Int)] 2)).trans (hb6.mono (by simp)) |>.mono hs5)
  have hs7 := hb7.size
  have hla := Lib.hid (fLandsB g mb cnt D (nn2 Ls) S AN AP AQ n cN n cP nq cq i p P w4 (HBen.out.below hb7) (HPts.out.below hb7) hn4 hq4 hi hpq HH.out.1 HH.out.2.1 HH.out.2.2.1 HH.out.2.2.2.1 hS HH.out.2.2.2.2.1 HH.out.2.2.2.2.2.1 HH.out.2.2.2.2.2.2)
  have hR4 := hR2.below hb7 (by omega)
  have hb8 := hb3.trans (hb7.mono (by omega))
  clear hb5 hb6 c43 hR2 hR1
  go_wp2_with fail
  refine hla.out.mono ?_
  rintro e w5 ⟨rfl, hb9⟩
  have hR5 := hR4.below hb9 (by omega)
  have hb10 := hb8.trans (hb9.mono (by omega))
  have HE := Lib.hid HRes.out
  rw [HRes.out]
  obtain ⟨x, y⟩ := res
  have r0 : w5.cell? ⟨w.heap.size + 1, 0, none⟩ = some (.int .i64 0) := hR5.cell 0
  have r1 : w5.cell? ⟨w.heap.size + 1, 1, none⟩ = some (.int .i64 0) := hR5.cell 1
  have f0 : w5.frozen? ⟨w.heap.size + 1, 0, none⟩ = false := hR5.frozen 0
  have f1 : w5.frozen? ⟨w.heap.size + 1, 1, none⟩ = false := hR5.frozen 1
  go_wp2
  have hbk2 : Bk ((w5.setCell ⟨w.heap.size + 1, 0, none⟩ (.int .i64 x)).setCell ⟨w.heap.size + 1, 1, none⟩ (.int .i64 y)) (w.heap.size + 1) 39 #[.int .i64 x, .int .i64 y] := (hR5.set_ 0 (.int .i64 x)).set_ 1 (.int .i64 y)
  exact ret_ratio2 rfl rfl hbk2 rfl ⟨rfl, (hb10.setCell (p := ⟨w.heap.size + 1, 0, none⟩) (by show w.heap.size ≤ w.heap.size + 1; omega) (.int .i64 x)).setCell (p := ⟨w.heap.size + 1, 1, none⟩) (by show w.heap.size ≤ w.heap.size + 1; omega) (.int .i64 y)⟩
end Go.Proofs.YtibmpjhffeinoaaGreat
