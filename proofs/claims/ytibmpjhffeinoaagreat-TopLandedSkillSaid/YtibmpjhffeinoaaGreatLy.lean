/-
  wheel: 'open', 'Parts' of a valid machine.
-/
import Derived.Test.YtibmpjhffeinoaaGreatLx
namespace Go.Proofs.YtibmpjhffeinoaaGreat
open Go.RowKit Go.Shelf Go.Maps

/-- What 'open' answers. -/
def OpenR (w : World) (S : Int) (AN AP : Option Addr) (n cN cP : Nat) (Ls : List (List Int)) (g : Nat) (w' : World) : Prop := ∃ mb cnt D AQ nq cq, Ben w' g mb cnt D (nn2 Ls) S AN AP AQ n cN n cP nq cq ∧ Pts w' g AQ nq cq (partsL (nn2 Ls) n n) ∧ w.heap.size ≤ g ∧ Below w.heap.size w w'
set_option maxRecDepth 100000 in
set_option maxHeartbeats 1600000 in
theorem fWOpen (AN AP : Option Addr) (n cN cP : Nat) (S : Int) (Ls : List (List Int)) (ys : List Int) (w : World) (hmv : Mv w w.heap.size AN n Ls) (hri : Ri w w.heap.size AP n ys) (hv : ValM S Ls ys) :
    Calls Tryz.prog 55 #[.agg #[.int .i64 S, .slice AN n cN, .slice AP n cP]] w fun e w' => ∃ g, e = .returned (.tuple #[.pointer (some ⟨g, 0, none⟩), .int .i64 0]) ∧ OpenR w S AN AP n cN cP Ls g w' := by
  have hL := hmv.1
  have hn4 : n ≤ 4 := by have := hv.1.1.2; omega
  have HR : Hid (∀ L ∈ Ls, L.length = n) := Lib.hid fun L h => (hv.1.2.1 L h).trans hL
  have HW : Hid (∀ L ∈ Ls, ∀ x ∈ L, 0 ≤ x ∧ x ≤ 20) := Lib.hid fun L h x hx => by
    have h1 := hv.1.2.2.2.2.1 L h x hx
    have h2 := hv.1.2.2.2.1.2
    omega
  have HV := Lib.hid hv
  clear hv hL
  have hb1 := (Below.refl w.heap.size w).alloc (Nat.le_refl _) (.cells #[.int .i64 S, .slice AN n cN, .slice AP n cP] 25)
  have hbk := Bk.new w 25 #[.int .i64 S, .slice AN n cN, .slice AP n cP]
  have hs1 : (w.alloc (.cells #[.int .i64 S, .slice AN n cN, .slice AP n cP] 25)).heap.size = w.heap.size + 1 := by simp
  have hmv1 := (hmv.below hb1).more (B' := (w.alloc (.cells #[.int .i64 S, .slice AN n cN, .slice AP n cP] 25)).heap.size) (by omega)
  have hri1 := (hri.below hb1).more (B' := (w.alloc (.cells #[.int .i64 S, .slice AN n cN, .slice AP n cP] 25)).heap.size) (by omega)
  generalize hW : w.alloc (.cells #[.int .i64 S, .slice AN n cN, .slice AP n cP] 25) = W at *
  have c0 : W.cell? ⟨w.heap.size, 0, none⟩ = some (.int .i64 S) := hbk.cell 0
  have c1 : W.cell? ⟨w.heap.size, 1, none⟩ = some (.slice AN n cN) := hbk.cell 1
  have c2 : W.cell? ⟨w.heap.size, 2, none⟩ = some (.slice AP n cP) := hbk.cell 2
  clear hbk hmv hri
  go_enter Tryz.func55, Tryz.ntmps55
  go_wp2_with fail
  refine (wCheckM _ _ _ _ _ _ _ _ _ _ hmv1 hri1 HV.out).mono ?_
  rintro e w1 ⟨rfl, hb2⟩
  have hs2 := hb2.size
  have d0 := (hb2.cell (p := ⟨w.heap.size, 0, none⟩) (by show w.heap.size < _; omega)).trans c0
  have d1 := (hb2.cell (p := ⟨w.heap.size, 1, none⟩) (by show w.heap.size < _; omega)).trans c1
  have d2 := (hb2.cell (p := ⟨w.heap.size, 2, none⟩) (by show w.heap.size < _; omega)).trans c2
  have hb3 := hb1.trans (hb2.mono (by omega))
  have hmv2 := (hmv1.below hb2).more hs2
  go_wp2_with fail
  refine (fBench AN AP n cN cP S Ls ys w1 hmv2 hn4 HR.out HW.out).mono ?_
  rintro e w2 ⟨g, mb, cnt, D, AQ, nq, cq, rfl, hBen, hPts, hgw, hb4⟩
  have hb5 := hb3.trans (hb4.mono (by omega))
  have HB := Lib.hid hBen
  have HP := Lib.hid hPts
  clear hBen hPts
  go_wp2
  go_ret2
  exact ⟨g, rfl, mb, cnt, D, AQ, nq, cq, HB.out, HP.out, by omega, hb5⟩
theorem size_row : (Tryz.prog.info? 35).map (·.size) = some 1 := by kernel_rfl
theorem copy_rows {w : World} {g nq cq : Nat} {AQ : Option Addr} {Ls : List (List Int)} (hP : Pts w g AQ nq cq Ls) (h0 : 0 < nq) :
    ∃ w', (Builtin.copy_ #[29, 29] 3 #[.slice (some ⟨w.heap.size, 0, none⟩) nq nq, .slice AQ nq cq]).run Tryz.prog (w.alloc (.cells (Array.replicate nq (Value.slice none 0 0)) 35)) = .ok (.int .i64 (nq : Int)) w' ∧ Mv w' w'.heap.size (some ⟨w.heap.size, 0, none⟩) nq Ls ∧ Below w.heap.size w w' := by
  have hba := (Below.refl w.heap.size w).alloc (Nat.le_refl _) (.cells (Array.replicate nq (Value.slice none 0 0)) 35)
  have hP2 := hP.below hba
  obtain ⟨olds, hol, hold⟩ := hP2.olds
  have hbk := Bk.new w 35 (Array.replicate nq (Value.slice none 0 0))
  cases AQ with
  | none =>
    have := hP.nn rfl
    have := hP.le
    omega
  | some aq =>
    have hone : ∀ v ∈ olds, v.oneCell' = true := fun v hv => by
      obtain ⟨r, hr⟩ := List.mem_iff_getElem?.1 hv
      have hrl : r < Ls.length := by
        have := (List.getElem?_eq_some_iff.1 hr).1
        rw [hP.len]; omega
      obtain ⟨ad, A, c', e, _, _, h3, _⟩ := hP2.at_ r _ (List.getElem?_eq_getElem hrl)
      cases e
      have := hold aq rfl r v hr
      rw [h3] at this
      cases this
      rfl
    have hrun := run_copy_row (P := Tryz.prog) (w.alloc (.cells (Array.replicate nq (Value.slice none 0 0)) 35)) 29 29 3 35 w.heap.size 0 nq nq aq nq cq (Array.replicate nq (Value.slice none 0 0)) 35 olds under_rows size_row hbk
      (by rw [hol]; exact (Nat.min_self nq).symm) (fun j v hj => hold aq rfl j v hj) (by rw [hol]; simp) hone
    rw [hol] at hrun
    have e : ((Array.replicate nq (Value.slice none 0 0)).toList.take 0 ++ olds ++ (Array.replicate nq (Value.slice none 0 0)).toList.drop (0 + nq)).toArray = olds.toArray := by simp
    rw [e] at hrun
    have hb2 : Below w.heap.size w ((w.alloc (.cells (Array.replicate nq (Value.slice none 0 0)) 35)).setRow w.heap.size olds.toArray) := below_setRow hba (Nat.le_refl _) _
    have hbk2 : Bk ((w.alloc (.cells (Array.replicate nq (Value.slice none 0 0)) 35)).setRow w.heap.size olds.toArray) w.heap.size 35 olds.toArray := setRow_heap _ w.heap.size _ _ _ _ hbk
    refine ⟨_, hrun, ⟨hP.len, fun r L hr => ?_⟩, hb2⟩
    obtain ⟨ad, A, c', e1, _, h2, h3, h4, h5, _⟩ := hP2.at_ r L hr
    cases e1
    obtain ⟨ad', A', c2, e1, _, h2', h3', h4', h5', _⟩ := hP.at_ r L hr
    cases e1
    have hrn : r < olds.length := by
      have := (List.getElem?_eq_some_iff.1 hr).1
      rw [hP.len] at this
      omega
    have hv := hold aq rfl r _ (List.getElem?_eq_getElem hrn)
    rw [h3] at hv
    have hAA : A = A' := by
      have := (World.cell?_alloc_lt w (.cells (Array.replicate nq (Value.slice none 0 0)) 35) (aq.add r) (by rw [addr_block]; exact h2')).trans h3'
      rw [h3] at this
      cases this
      rfl
    subst hAA
    refine ⟨_, A, c', rfl, hbk2.lt, ?_, h4, h5'.next hb2 (Nat.le_refl _) hb2.size⟩
    rw [add_lit0, hbk2.cell]
    simp only [List.getElem?_toArray, List.getElem?_eq_getElem hrn]
    exact hv.symm
set_option maxRecDepth 100000 in
set_option maxHeartbeats 1600000 in
theorem fParts (AN AP : Option Addr) (n cN cP : Nat) (S : Int) (Ls : List (List Int)) (ys : List Int) (w : World) (hmv : Mv w w.heap.size AN n Ls) (hri : Ri w w.heap.size AP n ys) (hv : ValM S Ls ys) (hq : 0 < (partsL (nn2 Ls) n n).length) :
    Calls Tryz.prog 12 #[.agg #[.int .i64 S, .slice AN n cN, .slice AP n cP]] w fun e w' => ∃ A nq, e = .returned (.tuple #[.slice A nq nq, .int .i64 0]) ∧ Mv w' w'.heap.size A nq (partsL (nn2 Ls) n n) ∧ Below w.heap.size w w' := by
  have hn4 : n ≤ 4 := by have h1 := hv.1.1.2; have h2 := hmv.1; omega
  have HV := Lib.hid hv
  have HQ := Lib.hid hq
  clear hv hq
  have hb1 := (Below.refl w.heap.size w).alloc (Nat.le_refl _) (.cells #[.int .i64 S, .slice AN n cN, .slice AP n cP] 25)
  have hbk := Bk.new w 25 #[.int .i64 S, .slice AN n cN, .slice AP n cP]
  have hs1 : (w.alloc (.cells #[.int .i64 S, .slice AN n cN, .slice AP n cP] 25)).heap.size = w.heap.size + 1 := by simp
  have hmv1 := (hmv.below hb1).more (B' := (w.alloc (.cells #[.int .i64 S, .slice AN n cN, .slice AP n cP] 25)).heap.size) (by omega)
  have hri1 := (hri.below hb1).more (B' := (w.alloc (.cells #[.int .i64 S, .slice AN n cN, .slice AP n cP] 25)).heap.size) (by omega)
  generalize hW : w.alloc (.cells #[.int .i64 S, .slice AN n cN, .slice AP n cP] 25) = W at *
  have c0 : W.cell? ⟨w.heap.size, 0, none⟩ = some (.int .i64 S) := hbk.cell 0
  have c1 : W.cell? ⟨w.heap.size, 1, none⟩ = some (.slice AN n cN) := hbk.cell 1
  have c2 : W.cell? ⟨w.heap.size, 2, none⟩ = some (.slice AP n cP) := hbk.cell 2
  clear hbk hmv hri
  go_enter Tryz.func12, Tryz.ntmps12
  go_wp2_with fail
  refine (fWOpen AN AP n cN cP S Ls ys W hmv1 hri1 HV.out).mono ?_
  rintro e w2 ⟨g, rfl, mb, cnt, D, AQ, nq, cq, hBen, hPts, hgw, hb2⟩
  have hb3 := hb1.trans (hb2.mono (by omega))
  have c4 := hBen.c4
  have hq0 : 0 < nq := by rw [← hPts.len]; exact HQ.out
  have hq4 : nq ≤ 4 := by rw [← hPts.len]; exact Nat.le_trans (partsL_len _ n n) hn4
  have hmk := run_rowsi nq (by omega)
  obtain ⟨w3, hcp, hmv3, hb4⟩ := copy_rows hPts hq0
  have hb5 := hb3.trans (hb4.mono hb3.size)
  have HM := Lib.hid hmv3
  have d4 : (w2.alloc (.cells (Array.replicate nq (Value.slice none 0 0)) 35)).cell? ⟨g, 4, none⟩ = some (.slice AQ nq cq) := (World.cell?_alloc_lt _ _ _ (by exact hBen.bk.lt)).trans c4
  clear hBen hPts hmv3 c0 c1 c2 hmv1 hri1
  go_wp2
  go_ret2
  exact ⟨_, nq, rfl, HM.out, hb5⟩
end Go.Proofs.YtibmpjhffeinoaaGreat
