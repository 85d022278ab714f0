/-
  wheel: 'newBench'.
-/
import Derived.Test.YtibmpjhffeinoaaGreatLw
import Derived.Test.YtibmpjhffeinoaaGreatLl
import Derived.Deep.Grids
namespace Go.Proofs.YtibmpjhffeinoaaGreat
open Go.RowKit Go.Shelf Go.Maps

/-- The numbers of a table. -/
def nn2 (Ls : List (List Int)) (i k : Nat) : Int := nth (Ls[i]?.getD []) k
/-- A closed part begins at a state. -/
def isPart (N : Nat → Nat → Int) (n i : Nat) : Prop := (∀ x ∈ rchL N n i, ¬ x < (i : Int) ∧ rchL N n x.toNat = rchL N n i) ∧ (i : Int) ∈ rchL N n i
open Classical in
/-- The closed parts that begin at the first states. -/
noncomputable def partsL (N : Nat → Nat → Int) (n m : Nat) : List (List Int) := ((List.range m).filter fun i => decide (isPart N n i)).map (rchL N n)
theorem partsL_yes {N : Nat → Nat → Int} {n m : Nat} (h : isPart N n m) : partsL N n (m + 1) = partsL N n m ++ [rchL N n m] := by
  unfold partsL
  rw [List.range_succ, List.filter_append, List.map_append]
  simp [h]
theorem partsL_len (N : Nat → Nat → Int) (n m : Nat) : (partsL N n m).length ≤ m := by
  unfold partsL
  rw [List.length_map]
  exact Nat.le_trans (List.length_filter_le _ _) (by simp)
theorem partsL_no {N : Nat → Nat → Int} {n m : Nat} (h : ¬ isPart N n m) : partsL N n (m + 1) = partsL N n m := by
  unfold partsL
  rw [List.range_succ, List.filter_append, List.map_append]
  simp [h]
/-- Lists of ints in memory, away from block g. -/
structure Pts (w : World) (g : Nat) (AQ : Option Addr) (nq cq : Nat) (Ls : List (List Int)) : Prop where
  len : Ls.length = nq
  le : nq ≤ cq
  nn : AQ = none → cq = 0
  at_ : ∀ (r : Nat) (L : List Int), Ls[r]? = some L → ∃ ad A c', AQ = some ad ∧ ad.block ≠ g ∧ ad.block < w.heap.size ∧ w.cell? (ad.add r) = some (.slice A L.length c') ∧ L.length ≤ c' ∧ Ri w w.heap.size A L.length L ∧ ∀ a, A = some a → a.block ≠ g
section
variable {w w' : World} {g nq cq : Nat} {AQ : Option Addr} {Ls : List (List Int)}
theorem Pts.zero (w : World) (g : Nat) : Pts w g none 0 0 [] := ⟨rfl, Nat.le_refl _, fun _ => rfl, fun r L h => by simp at h⟩
theorem Pts.below (h : Pts w g AQ nq cq Ls) (hb : Below w.heap.size w w') : Pts w' g AQ nq cq Ls := ⟨h.len, h.le, h.nn, fun r L hr => by
  obtain ⟨ad, A, c', e, h1, h2, h3, h4, h5, h6⟩ := h.at_ r L hr
  exact ⟨ad, A, c', e, h1, Nat.lt_of_lt_of_le h2 hb.size, (hb.cell (by rw [addr_block]; exact h2)).trans h3, h4, h5.next hb (Nat.le_refl _) hb.size, h6⟩⟩
theorem Pts.olds (h : Pts w g AQ nq cq Ls) : ∃ olds : List Value, olds.length = nq ∧ ∀ b, AQ = some b → ∀ (j : Nat) u, olds[j]? = some u → w.cell? (b.add j) = some u := by
  cases AQ with
  | none =>
    have := h.nn rfl
    have := h.le
    exact ⟨[], by simp; omega, fun b e => by cases e⟩
  | some ad =>
    refine ⟨(List.range nq).map fun j => (w.cell? (ad.add j)).getD (.bool false), by simp, fun b e j u hj => ?_⟩
    cases e
    have hjn : j < nq := by
      have := (List.getElem?_eq_some_iff.1 hj).1
      simpa using this
    rw [List.getElem?_map, List.getElem?_range hjn] at hj
    simp only [Option.map_some, Option.some.injEq] at hj
    obtain ⟨ad', A, c', e, _, _, h3, _⟩ := h.at_ j _ (List.getElem?_eq_getElem (by rw [h.len]; exact hjn))
    cases e
    rw [h3] at hj ⊢
    exact congrArg some hj
theorem Pts.push {olds : List Value} {g' cap gp m cp : Nat} {part : List Int} (h : Pts w g AQ nq cq Ls) (hl : olds.length = nq) (ho : ∀ b, AQ = some b → ∀ (j : Nat) u, olds[j]? = some u → w.cell? (b.add j) = some u) (hg : w.grownBy w' none) (hg1 : w.heap.size ≤ g') (hg2 : w'.heap[g']? ≠ none)
    (hcell : ∀ (j : Nat) u, (olds ++ [.slice (some ⟨gp, 0, none⟩) m cp])[j]? = some u → w'.cell? ⟨g', j, none⟩ = some u) (hcap : nq + 1 ≤ cap) (hgg : g < w.heap.size) (hri : Ri w w.heap.size (some ⟨gp, 0, none⟩) m part) (hm : m ≤ cp) (hgp : gp ≠ g) : Pts w' g (some ⟨g', 0, none⟩) (nq + 1) cap (Ls ++ [part]) := by
  have hb := below_grown0 hg
  have hg3 : g' < w'.heap.size := by
    refine Nat.lt_of_not_le fun hle => hg2 ?_
    exact Array.getElem?_eq_none hle
  refine ⟨by rw [List.length_append, h.len]; rfl, hcap, fun e => (by cases e), fun r L hr => ?_⟩
  by_cases hrn : r < nq
  · rw [List.getElem?_append_left (by rw [h.len]; exact hrn)] at hr
    obtain ⟨ad, A, c', e, h1, h2, h3, h4, h5, h6⟩ := h.at_ r L hr
    refine ⟨_, A, c', rfl, by show g' ≠ g; omega, hg3, ?_, h4, h5.next hb (Nat.le_refl _) hb.size, h6⟩
    rw [add_lit0]
    refine hcell r _ ?_
    rw [List.getElem?_append_left (by omega), List.getElem?_eq_getElem (by omega)]
    have := ho ad e r _ (List.getElem?_eq_getElem (by omega))
    rw [h3] at this
    exact this.symm
  · have hrq : r = nq := by
      have := (List.getElem?_eq_some_iff.1 hr).1
      rw [List.length_append, h.len] at this
      simp at this
      omega
    subst hrq
    rw [List.getElem?_append_right (by rw [h.len]; exact Nat.le_refl _), h.len, Nat.sub_self] at hr
    simp at hr
    subst hr
    have hml := hri.len
    rw [← hml] at hm hri hcell
    refine ⟨_, some ⟨gp, 0, none⟩, cp, rfl, by show g' ≠ g; omega, hg3, ?_, hm, hri.next hb (Nat.le_refl _) hb.size, fun a e => by cases e; exact hgp⟩
    rw [add_lit0]
    refine hcell r _ ?_
    rw [List.getElem?_append_right (by omega), hl, Nat.sub_self]
    rfl
theorem Pts.drewN (h : Pts w g AQ nq cq Ls) (k : Nat) : Pts (w.drewN k) g AQ nq cq Ls := ⟨h.len, h.le, h.nn, h.at_⟩
theorem Pts.store {u : Value} {o : Nat} (h : Pts w g AQ nq cq Ls) : Pts (w.setCell ⟨g, o, none⟩ u) g AQ nq cq Ls := ⟨h.len, h.le, h.nn, fun r L hr => by
  obtain ⟨ad, A, c', e, h1, h2, h3, h4, h5, h6⟩ := h.at_ r L hr
  have hs : (w.setCell ⟨g, o, none⟩ u).heap.size = w.heap.size := by simp [World.setCell]
  refine ⟨ad, A, c', e, h1, by rw [hs]; exact h2, ?_, h4, ?_, h6⟩
  · rw [World.cell?_setCell_other w ⟨g, o, none⟩ (ad.add r) u (fun q => h1 (by rw [← addr_block ad r, ← q]))]
    exact h3
  · rw [hs]
    exact h5.far h6⟩
end
set_option maxRecDepth 100000 in
set_option maxHeartbeats 3200000 in
theorem fBench (AN AP : Option Addr) (n cN cP : Nat) (S : Int) (Ls : List (List Int)) (_ys : List Int) (w : World) (hmv : Mv w w.heap.size AN n Ls) (hn : n ≤ 4) (hLs : ∀ L ∈ Ls, L.length = n) (hwf : ∀ L ∈ Ls, ∀ x ∈ L, 0 ≤ x ∧ x ≤ 20) :
    Calls Tryz.prog 146 #[.agg #[.int .i64 S, .slice AN n cN, .slice AP n cP]] w fun e w' => ∃ g mb cnt D AQ nq cq, e = .returned (.pointer (some ⟨g, 0, none⟩)) ∧ Ben w' g mb cnt D (nn2 Ls) S AN AP AQ n cN n cP nq cq ∧ Pts w' g AQ nq cq (partsL (nn2 Ls) n n) ∧ w.heap.size ≤ g ∧ Below w.heap.size w w' := by
  have hmm := @run_makeMap Tryz.prog
  have HL := Lib.hid hmv.1
  have HR := Lib.hid hLs
  have HW := Lib.hid hwf
  clear hLs hwf
  have hb1 := (((Below.refl w.heap.size w).alloc (Nat.le_refl _) (.cells #[.int .i64 S, .slice AN n cN, .slice AP n cP] 25)).alloc (by simp) (.map #[] 0)).alloc (by simp; omega) (.cells (bnCells S AN AP none n cN n cP (w.heap.size + 1) 0 0) 105)
  have hbk := Bk.new ((w.alloc (.cells #[.int .i64 S, .slice AN n cN, .slice AP n cP] 25)).alloc (.map #[] 0)) 105 (bnCells S AN AP none n cN n cP (w.heap.size + 1) 0 0)
  have hmp := (World.ownsMap_made (w.alloc (.cells #[.int .i64 S, .slice AN n cN, .slice AP n cP] 25)) Tryz.prog 218 (plainElem (H := Unit) Tryz.prog 2)).alloc (.cells (bnCells S AN AP none n cN n cP (w.heap.size + 1) 0 0) 105)
  rw [World.size_alloc, World.size_alloc] at hbk
  rw [World.size_alloc] at hmp
  unfold bnCells at hb1 hbk hmp
  generalize hW : ((w.alloc (.cells #[.int .i64 S, .slice AN n cN, .slice AP n cP] 25)).alloc (.map #[] 0)).alloc (.cells #[.int .i64 S, .slice AN n cN, .slice AP n cP, .map (some (w.heap.size + 1)), .slice none 0 0] 105) = W at *
  have hs : W.heap.size = w.heap.size + 3 := by rw [← hW]; simp
  have c1 : W.cell? ⟨w.heap.size + 1 + 1, 1, none⟩ = some (.slice AN n cN) := hbk.cell 1
  go_enter Tryz.func146, Tryz.ntmps146
  go_wp2
  go_step3
  go_wp2
  clear hmm c1 hW
  have hgs : w.heap.size + 1 + 1 < W.heap.size := by omega
  generalize hg : w.heap.size + 1 + 1 = g at *
  generalize hmb : w.heap.size + 1 = mb at *
  obtain ⟨N, hN⟩ : ∃ N, Hid (nn2 Ls = N) := ⟨_, Lib.hid rfl⟩
  have HT0 := Lib.hid (TuB.zero n N)
  go_loopw [4, 5, 6, 7, 24, 31] (fun _ _ _ _ t24 _ wr => ∃ (k cnt : Nat) (D : DataW Unit), k ≤ n ∧ t24 = .int .i64 (k : Int) ∧ wr.ownsMap Tryz.prog 218 (plainElem (H := Unit) Tryz.prog 2) mb cnt D ∧ Hid (TuB n (k * n) N D) ∧ cnt ≤ 100 * k ∧ Bk wr g 105 #[.int .i64 S, .slice AN n cN, .slice AP n cP, .map (some mb), .slice none 0 0] ∧ Below w.heap.size w wr) (fun _ _ _ _ t24 _ _ => n - (intOf t24).toNat)
  case atStart => exact ⟨0, 0, _, Nat.zero_le _, rfl, hmp, Lib.hid (by rw [Nat.zero_mul]; exact HT0.out), by omega, hbk, hb1⟩
  case round =>
    clear hmp hbk hb1
    obtain ⟨k, cnt, D, hk, rfl, hmp, HT, hcnt, hbk, hb1⟩ := hrel
    by_cases hlt : k < n
    · have hL : Ls[k]? = some (Ls[k]'(by rw [HL.out]; exact hlt)) := List.getElem?_eq_getElem (by rw [HL.out]; exact hlt)
      have hlen := HR.out _ (List.mem_of_getElem? hL)
      have HX := Lib.hid (HW.out _ (List.mem_of_getElem? hL))
      obtain ⟨ad, A1, c1', rfl, hadl, h2w, _, hrL⟩ := hmv.2 k _ hL
      have h2 := (hb1.cell (p := ad.add k) (by rw [addr_block]; exact hadl)).trans h2w
      have HLk := Lib.hid hL
      generalize Ls[k]'(by rw [HL.out]; exact hlt) = L at *
      clear hL
      rw [hlen] at h2 hrL
      clear h2w
      have HLL := Lib.hid hlen
      clear hlen
      go_wp2
      go_loopw [6, 7, 31] (fun _ _ t31 wr => ∃ (q cnt : Nat) (D : DataW Unit), q ≤ n ∧ t31 = .int .i64 (q : Int) ∧ wr.ownsMap Tryz.prog 218 (plainElem (H := Unit) Tryz.prog 2) mb cnt D ∧ Hid (TuB n (k * n + q) N D) ∧ cnt ≤ 100 * k + q ∧ Bk wr g 105 #[.int .i64 S, .slice (some ad) n cN, .slice AP n cP, .map (some mb), .slice none 0 0] ∧ Below w.heap.size w wr) (fun _ _ t31 _ => n - (intOf t31).toNat)
      case atStart => exact ⟨0, cnt, D, Nat.zero_le _, rfl, hmp, HT, by omega, hbk, hb1⟩
      case round =>
        clear hmp hbk HT hcnt h2 hb1
        obtain ⟨q, cnt, D, hq, rfl, hmp, HT, hcnt, hbk, hb1⟩ := hrel
        by_cases hqn : q < n
        · obtain ⟨adx, x, rfl, _, hcx, HXx, HXg⟩ := (hrL.below hb1).at_ hqn
          have hx0 := HX.out x (List.mem_of_getElem? HXx.out)
          have c3 : wr.cell? ⟨g, 3, none⟩ = some (.map (some mb)) := hbk.cell 3
          obtain ⟨kl, hkl⟩ := tk_ex (i := (k : Int)) (k := (q : Int)) (by omega) (by omega)
          have HT2 : Hid (TuB n (k * n + (q + 1)) N (D.put kl (.lit (.int .i64 x)))) := Lib.hid (HT.out.put hqn hkl (by
            rw [← hN.out]
            unfold nn2 nth
            rw [HLk.out]
            exact HXg.out.symm))
          have hwx : (Lit.int .i64 x).wf = true := wf_small (by omega)
          have hmx : cnt < maxLen := by unfold maxLen; omega
          unfold tv at hkl
          go_wp2_with (at_mapUpdate; refine wpList_mapUpdate_own _ rfl _ _ _ 103 rfl 218 2 lawT under_turns _ mb cnt D rfl hmp hmx _ _ kl rfl rfl hkl _ [] (plainElem_int under_i64 hwx) ?_; intro w1 hmp1 hg1; have hbk1 := hbk.grown hg1 (by simp; omega); have hb2 := hb1.grown hg1 hb1.size (fun j hj => by cases hj; omega))
          exact ⟨⟨q + 1, cnt + 1, _, by omega, by go_num, hmp1, HT2, by omega, hbk1, hb2⟩, by simp [intOf]; omega⟩
        · obtain rfl : n = q := by omega
          have HT2 : Hid (TuB n ((k + 1) * n) N D) := Lib.hid (by rw [Nat.add_mul, Nat.one_mul]; exact HT.out)
          go_wp2
          exact ⟨⟨k + 1, cnt, D, by omega, by go_num, hmp, HT2, by omega, hbk, hb1⟩, by simp [intOf]; omega⟩
    · obtain rfl : n = k := by omega
      have HTA := Lib.hid HT.out.all
      have c3 : wr.cell? ⟨g, 3, none⟩ = some (.map (some mb)) := hbk.cell 3
      clear HT HT0 hcnt
      go_wp2_with (at_range; refine wpList_range_own _ rfl _ 103 rfl 218 2 lawT under_turns _ mb cnt D rfl hmp ?_; intro w0 hrg0 hg0 hs0)
      go_frame
      have hgr := hbk.lt
      have hmr := hmp.lt
      have hbk0 := hbk.grown hg0 (by simp)
      have hb2 := hb1.grown hg0 hb1.size (fun j hj => by cases hj)
      have hwr := hb1.size
      clear hbk hmp hb1 c3 hg0
      generalize wr.heap.size = r at *
      go_loopw [8, 9] (fun _ _ wr' => ∃ (left : Lit → Bool) (cnt' : Nat) (D' : DataW Unit), wr'.ranges Tryz.prog 218 (plainElem (H := Unit) Tryz.prog 2) mb r cnt D' left cnt' ∧ Hid (Tu n N D') ∧ Bk wr' g 105 #[.int .i64 S, .slice AN n cN, .slice AP n cP, .map (some mb), .slice none 0 0] ∧ r < wr'.heap.size ∧ Below w.heap.size w wr') (fun _ _ wr' => wr'.rangeLeft mb r)
      case atStart => exact ⟨_, _, D, hrg0, HTA, hbk0, by omega, hb2⟩
      case round =>
        clear hrg0 HTA hbk0 hb2 hs0
        obtain ⟨left, cnt', D', hrg, HT, hbk, hrs, hb⟩ := hrel
        go_wp2_with (at_next; refine wpList_next_ranges _ rfl _ rfl 218 lawT (plainElem (H := Unit) Tryz.prog 2) (fun x : Int × Int => tv x.1 x.2) (Value.int .i64) (fun key kl hk => tk_inv hk) (fun v y hv => (by obtain ⟨c, rfl, _⟩ := plainElem_int_inv under_i64 hv; exact ⟨c, rfl⟩)) mb r cnt D' left cnt' rfl hrg ?_ ?_)
        · intro _ _
          have hBen : Ben wr g mb cnt D' N S AN AP none n cN n cP 0 0 := ⟨hbk, hrg.owns, HT.out⟩
          have hPts := Pts.zero wr g
          have c1 := hBen.c1
          clear hrg HT hbk hrs hlt hk
          go_wp2
          go_step3
          go_wp2
          go_loopw [10, 11, 13, 69] (fun _ _ _ t69 wr => ∃ (i nq cq : Nat) (AQ : Option Addr), i ≤ n ∧ t69 = .int .i64 (i : Int) ∧ Ben wr g mb cnt D' N S AN AP AQ n cN n cP nq cq ∧ Pts wr g AQ nq cq (partsL N n i) ∧ Below w.heap.size w wr) (fun _ _ _ t69 _ => n - (intOf t69).toNat)
          case atStart => exact ⟨0, 0, 0, none, Nat.zero_le _, rfl, hBen, hPts, hb⟩
          case round =>
            clear hBen hPts hb c1
            obtain ⟨i, nq, cq, AQ, hi, rfl, hBen, hPts, hb⟩ := hrel
            by_cases hin : i < n
            · have hc := fReached g mb cnt D' N S AN AP AQ n cN n cP nq cq i wr hBen hn hin
              go_wp2_with (go_at_call 274; refine (hc).mono ?_; rintro e w1 ⟨gp, m, cp, rfl, hgp, hmc, hri, hb1⟩; have hBen1 := hBen.below hb1; have hPts1 := hPts.below hb1; have hb2 := hb.trans (hb1.mono hb.size))
              have hgpg : gp ≠ g := by have := hBen.bk.lt; omega
              obtain ⟨part, HPT⟩ : ∃ part, Hid (rchL N n i = part) := ⟨_, Lib.hid rfl⟩
              rw [HPT.out] at hri
              have hm4 : m ≤ 4 := by
                rw [← hri.len, ← HPT.out]
                exact List.length_filter_le _ _
              clear hc hBen hPts hb hb1
              go_loopw [13, 77] (fun _ t77 wr => ∃ q : Nat, q ≤ m ∧ t77 = .int .i64 (q : Int) ∧ Hid (∀ j x, j < q → part[j]? = some x → (i : Int) ≤ x ∧ rchL N n x.toNat = part) ∧ Ben wr g mb cnt D' N S AN AP AQ n cN n cP nq cq ∧ Pts wr g AQ nq cq (partsL N n i) ∧ Ri wr wr.heap.size (some ⟨gp, 0, none⟩) m part ∧ Below w.heap.size w wr) (fun _ t77 _ => m - (intOf t77).toNat)
              case atStart => exact ⟨0, Nat.zero_le _, rfl, Lib.hid fun j x h => absurd h (Nat.not_lt_zero j), hBen1, hPts1, hri, hb2⟩
              case round =>
                clear hBen1 hPts1 hri hb2
                obtain ⟨q, hq, rfl, HQ, hBen, hPts, hri, hb⟩ := hrel
                by_cases hqm : q < m
                · obtain ⟨ad, x, e, _, hcx, HX, _⟩ := hri.at_ hqm
                  cases e
                  rw [add_lit0] at hcx
                  obtain ⟨k, hk, hrch⟩ := rchL_of (N := N) (n := n) (i := i) (x := x) (by rw [HPT.out]; exact List.mem_of_getElem? HX.out)
                  have hkn := hrch.lt
                  subst hk
                  have HRC := Lib.hid hrch
                  clear hrch
                  by_cases hki : k < i
                  · have HN : Hid (partsL N n (i + 1) = partsL N n i) := Lib.hid (partsL_no fun h => (h.1 (k : Int) (rchL_mem hn |>.2 HRC.out)).1 (by omega))
                    rw [← HN.out] at hPts
                    have hdk : decide ((k : Int) < (i : Int)) = true := decide_eq_true (by omega)
                    go_wp2_with fail
                    exact ⟨⟨i + 1, nq, cq, AQ, by omega, by go_num, hBen, hPts, hb⟩, by simp [intOf]; omega⟩
                  · have hdk : decide ((k : Int) < (i : Int)) = false := decide_eq_false (by omega)
                    have hc := fReached g mb cnt D' N S AN AP AQ n cN n cP nq cq k wr hBen hn hkn
                    by_cases heq : rchL N n k = part
                    · have HQ2 : Hid (∀ j x, j < q + 1 → part[j]? = some x → (i : Int) ≤ x ∧ rchL N n x.toNat = part) := Lib.hid fun j x hj hx => by
                        by_cases e : j = q
                        · subst e
                          rw [HX.out] at hx
                          cases hx
                          exact ⟨by omega, by simpa using heq⟩
                        · exact HQ.out j x (by omega) hx
                      have HD : Hid (decide (rchL N n k = part) = true) := Lib.hid (decide_eq_true heq)
                      clear heq
                      go_wp2_with (first | (go_at_call 274; refine (hc).mono ?_; rintro e w1 ⟨gp2, m2, cp2, rfl, _, _, hri2, hb1⟩; have hri3 := hri.next hb1 (Nat.le_refl _) hb1.size; have hm24 : m2 ≤ 4 := (by rw [← hri2.len]; exact List.length_filter_le _ _); have hBen1 := hBen.below hb1; have hPts1 := hPts.below hb1; have hb2 := hb.trans (hb1.mono hb.size)) | (go_at_call 275; refine (fEqual _ _ _ _ _ _ _ _ _ _ _ hri2 hri3 (by omega)).mono ?_; rintro e w2 ⟨rfl, md, rfl⟩; rw [HD.out]))
                      exact ⟨⟨q + 1, by omega, by go_num, HQ2, ⟨hBen1.bk, hBen1.mp, hBen1.tu⟩, hPts1.drewN _, hri3.drewN _, below_drewN hb2 _⟩, by simp [intOf]; omega⟩
                    · have HN : Hid (partsL N n (i + 1) = partsL N n i) := Lib.hid (partsL_no fun h => heq (by
                        have := (h.1 (k : Int) (rchL_mem hn |>.2 HRC.out)).2
                        rw [HPT.out] at this
                        simpa using this))
                      rw [← HN.out] at hPts
                      have HD : Hid (decide (rchL N n k = part) = false) := Lib.hid (decide_eq_false heq)
                      clear heq
                      go_wp2_with (first | (go_at_call 274; refine (hc).mono ?_; rintro e w1 ⟨gp2, m2, cp2, rfl, _, _, hri2, hb1⟩; have hri3 := hri.next hb1 (Nat.le_refl _) hb1.size; have hm24 : m2 ≤ 4 := (by rw [← hri2.len]; exact List.length_filter_le _ _); have hBen1 := hBen.below hb1; have hPts1 := hPts.below hb1; have hb2 := hb.trans (hb1.mono hb.size)) | (go_at_call 275; refine (fEqual _ _ _ _ _ _ _ _ _ _ _ hri2 hri3 (by omega)).mono ?_; rintro e w2 ⟨rfl, md, rfl⟩; rw [HD.out]))
                      exact ⟨⟨i + 1, nq, cq, AQ, by omega, by go_num, ⟨hBen1.bk, hBen1.mp, hBen1.tu⟩, hPts1.drewN _, below_drewN hb2 _⟩, by simp [intOf]; omega⟩
                · obtain rfl : m = q := by omega
                  by_cases hmem : (i : Int) ∈ part
                  · have HY : Hid (partsL N n (i + 1) = partsL N n i ++ [part]) := Lib.hid (by
                      rw [partsL_yes ⟨fun x hx => ?_, by rw [HPT.out]; exact hmem⟩, HPT.out]
                      rw [HPT.out] at hx ⊢
                      obtain ⟨j, hj⟩ := List.mem_iff_getElem?.1 hx
                      have := HQ.out j x (by have := (List.getElem?_eq_some_iff.1 hj).1; rw [hri.len] at this; exact this) hj
                      exact ⟨by omega, this.2⟩)
                    have HD : Hid (decide ((i : Int) ∈ part) = true) := Lib.hid (decide_eq_true hmem)
                    clear hmem
                    have c4 := hBen.c4
                    go_wp2_with (go_at_call 67; refine (fContains _ _ _ _ _ _ _ hri (by omega)).mono ?_; rintro e w5 ⟨rfl, rfl⟩; rw [HD.out])
                    have hmix : Tryz.prog.follows .mixedOrders = true := by kernel_rfl
                    have hqle := hPts.le
                    have hq4 : nq ≤ 4 := by rw [← hPts.len]; exact Nat.le_trans (partsL_len N n i) (by omega)
                    have hb2 : Below wr.heap.size wr (wr.alloc (.cells #[.slice (some ⟨gp, 0, none⟩) m cp] 35)).drew := below_drewN ((Below.refl _ wr).alloc (Nat.le_refl _) _) 1
                    have hb3 := hb.trans (hb2.mono hb.size)
                    have hPts2 := hPts.below hb2
                    have hBen2 := hBen.below hb2
                    have hri2 := hri.next hb2 (Nat.le_refl _) hb2.size
                    obtain ⟨olds, hol, hold⟩ := hPts2.olds
                    clear hri
                    cases AQ with
                    | none =>
                      have hcq := hPts.nn rfl
                      subst hcq
                      have hnq : nq = 0 := by omega
                      subst hnq
                      clear hPts hb hBen
                      refine wp_region_lastL (fun V => V.cell? ⟨g, 4, none⟩ = some (.slice none 0 0)) hmix rfl (by kernel_rfl) c4 (fun hS => ?_)
                      simp only [List.dropLast_cons_cons, List.dropLast_singleton, List.length_cons, List.length_nil, Nat.reduceAdd]
                      refine wpAnyH_take (i := 0) (v := ?_) rfl (by kernel_rfl) (by kernel_rfl) (by kernel_rfl) (fun _ _ _ h => h) (Or.inl ⟨by rfl, ?_⟩) (by assumption) ?_
                      rotate_left
                      · intro w hSw
                        (try dsimp only at hSw)
                        go_simp
                        (try with_reducible rfl)
                      try simp (maxSteps := 10000000) only [Act.put, List.setIfInBounds_toArray, List.getElem_toArray]
                      try simp only [List.getElem_cons_succ]
                      try simp only [List.getElem_cons_zero]
                      refine wpAnyH_take (i := 1) (v := ?_) rfl (by kernel_rfl) (by kernel_rfl) (by kernel_rfl) (fun _ _ _ h => h) (Or.inl ⟨by rfl, ?_⟩) (by assumption) ?_
                      rotate_left
                      · intro w hSw
                        (try dsimp only at hSw)
                        go_simp
                        (try with_reducible rfl)
                      try simp (maxSteps := 10000000) only [Act.put, List.setIfInBounds_toArray, List.set_cons_zero, List.set_cons_succ, List.getElem_toArray]
                      try simp only [List.getElem_cons_succ]
                      try simp only [List.getElem_cons_zero]
                      refine wpAnyH_take (i := 2) (v := ?_) rfl (by kernel_rfl) (by kernel_rfl) (by kernel_rfl) (fun _ _ _ h => h) (Or.inl ⟨by rfl, ?_⟩) (by assumption) ?_
                      rotate_left
                      · intro w hSw
                        (try dsimp only at hSw)
                        go_simp
                        (try with_reducible rfl)
                      try simp (maxSteps := 10000000) only [Act.put, List.setIfInBounds_toArray, List.set_cons_zero, List.set_cons_succ, List.getElem_toArray]
                      try simp only [List.getElem_cons_succ]
                      try simp only [List.getElem_cons_zero]
                      refine wpAnyH_take (i := 3) (v := ?_) rfl (by kernel_rfl) (by kernel_rfl) (by kernel_rfl) (fun _ _ _ h => h) (Or.inl ⟨by rfl, ?_⟩) (by assumption) ?_
                      rotate_left
                      · intro w hSw
                        (try dsimp only at hSw)
                        go_simp
                        (try with_reducible rfl)
                      try simp (maxSteps := 10000000) only [Act.put, List.setIfInBounds_toArray, List.set_cons_zero, List.set_cons_succ, List.getElem_toArray]
                      try simp only [List.getElem_cons_succ]
                      try simp only [List.getElem_cons_zero]
                      refine wpAnyH_take (i := 4) (v := ?_) rfl (by kernel_rfl) (by kernel_rfl) (by kernel_rfl) (fun _ _ _ h => h) (Or.inl ⟨by rfl, ?_⟩) (by assumption) ?_
                      rotate_left
                      · intro w hSw
                        (try dsimp only at hSw)
                        go_simp
                        (try with_reducible rfl)
                      try simp (maxSteps := 10000000) only [Act.put, List.setIfInBounds_toArray, List.set_cons_zero, List.set_cons_succ, List.getElem_toArray]
                      try simp only [List.getElem_cons_succ]
                      try simp only [List.getElem_cons_zero]
                      refine wpAnyH_take (i := 5) (v := ?_) rfl (by kernel_rfl) (by kernel_rfl) (by kernel_rfl) (fun _ _ _ h => h) (Or.inl ⟨by rfl, ?_⟩) (by assumption) ?_
                      rotate_left
                      · intro w hSw
                        (try dsimp only at hSw)
                        go_simp
                        (try with_reducible rfl)
                      try simp (maxSteps := 10000000) only [Act.put, List.setIfInBounds_toArray, List.set_cons_zero, List.set_cons_succ, List.getElem_toArray]
                      try simp only [List.getElem_cons_succ]
                      try simp only [List.getElem_cons_zero]
                      refine wpAnyH_take (i := 6) (v := ?_) rfl (by kernel_rfl) (by kernel_rfl) (by kernel_rfl) (fun _ _ _ h => h) (Or.inl ⟨by rfl, ?_⟩) (by assumption) ?_
                      rotate_left
                      · intro w hSw
                        (try dsimp only at hSw)
                        go_simp
                        (try with_reducible rfl)
                      try simp (maxSteps := 10000000) only [Act.put, List.setIfInBounds_toArray, List.set_cons_zero, List.set_cons_succ, List.getElem_toArray]
                      try simp only [List.getElem_cons_succ]
                      try simp only [List.getElem_cons_zero]
                      refine wpAnyH_take (i := 7) (v := ?_) rfl (by kernel_rfl) (by kernel_rfl) (by kernel_rfl) (fun _ _ _ h => h) (Or.inl ⟨by rfl, ?_⟩) (by assumption) ?_
                      rotate_left
                      · intro w hSw
                        (try dsimp only at hSw)
                        go_simp
                        (try with_reducible rfl)
                      try simp (maxSteps := 10000000) only [Act.put, List.setIfInBounds_toArray, List.set_cons_zero, List.set_cons_succ, List.getElem_toArray]
                      try simp only [List.getElem_cons_succ]
                      try simp only [List.getElem_cons_zero]
                      refine wpAnyH_take (i := 8) (v := ?_) rfl (by kernel_rfl) (by kernel_rfl) (by kernel_rfl) (fun _ _ _ h => h) (Or.inl ⟨by rfl, ?_⟩) (by assumption) ?_
                      rotate_left
                      · intro w hSw
                        (try dsimp only at hSw)
                        go_simp
                        (try with_reducible rfl)
                      try simp (maxSteps := 10000000) only [Act.put, List.setIfInBounds_toArray, List.set_cons_zero, List.set_cons_succ, List.getElem_toArray]
                      try simp only [List.getElem_cons_succ]
                      try simp only [List.getElem_cons_zero]
                      refine wpAnyH_take (i := 9) (v := ?_) rfl (by kernel_rfl) (by kernel_rfl) (by kernel_rfl) (fun _ _ _ h => h) (Or.inl ⟨by rfl, ?_⟩) (by assumption) ?_
                      rotate_left
                      · intro w hSw
                        (try dsimp only at hSw)
                        go_simp
                        (try with_reducible rfl)
                      try simp (maxSteps := 10000000) only [Act.put, List.setIfInBounds_toArray, List.set_cons_zero, List.set_cons_succ, List.getElem_toArray]
                      try simp only [List.getElem_cons_succ]
                      try simp only [List.getElem_cons_zero]
                      refine wpAnyH_take (i := 10) (v := ?_) rfl (by kernel_rfl) (by kernel_rfl) (by kernel_rfl) (fun _ _ _ h => h) (Or.inl ⟨by rfl, ?_⟩) (by assumption) ?_
                      rotate_left
                      · intro w hSw
                        (try dsimp only at hSw)
                        go_simp
                        (try with_reducible rfl)
                      try simp (maxSteps := 10000000) only [Act.put, List.setIfInBounds_toArray, List.set_cons_zero, List.set_cons_succ, List.getElem_toArray]
                      try simp only [List.getElem_cons_succ]
                      try simp only [List.getElem_cons_zero]
                      refine wpAnyH_take (i := 11) (v := ?_) rfl (by kernel_rfl) (by kernel_rfl) (by kernel_rfl) (fun _ _ _ h => h) (Or.inl ⟨by rfl, ?_⟩) (by assumption) ?_
                      rotate_left
                      · intro w hSw
                        (try dsimp only at hSw)
                        go_simp
                        (try with_reducible rfl)
                      try simp (maxSteps := 10000000) only [Act.put, List.setIfInBounds_toArray, List.set_cons_zero, List.set_cons_succ, List.getElem_toArray]
                      try simp only [List.getElem_cons_succ]
                      try simp only [List.getElem_cons_zero]
                      refine wpAnyH_take (i := 12) (v := ?_) rfl (by kernel_rfl) (by kernel_rfl) (by kernel_rfl) (fun _ _ _ h => h) (Or.inl ⟨by rfl, ?_⟩) (by assumption) ?_
                      rotate_left
                      · intro w hSw
                        (try dsimp only at hSw)
                        go_simp
                        (try with_reducible rfl)
                      try simp (maxSteps := 10000000) only [Act.put, List.setIfInBounds_toArray, List.set_cons_zero, List.set_cons_succ, List.getElem_toArray]
                      try simp only [List.getElem_cons_succ]
                      try simp only [List.getElem_cons_zero]
                      refine wpAnyH_take (i := 13) (v := ?_) rfl (by kernel_rfl) (by kernel_rfl) (by kernel_rfl) (fun _ _ _ h => h) (Or.inl ⟨by rfl, ?_⟩) (by assumption) ?_
                      rotate_left
                      · intro w hSw
                        (try dsimp only at hSw)
                        go_simp
                        (try with_reducible rfl)
                      try simp (maxSteps := 10000000) only [Act.put, List.setIfInBounds_toArray, List.set_cons_zero, List.set_cons_succ, List.getElem_toArray]
                      try simp only [List.getElem_cons_succ]
                      try simp only [List.getElem_cons_zero]
                      refine wpAnyH_take (i := 14) (v := ?_) rfl (by kernel_rfl) (by kernel_rfl) (by kernel_rfl) (fun _ _ _ h => h) (Or.inl ⟨by rfl, ?_⟩) (by assumption) ?_
                      rotate_left
                      · intro w hSw
                        (try dsimp only at hSw)
                        go_simp
                        (try with_reducible rfl)
                      try simp (maxSteps := 10000000) only [Act.put, List.setIfInBounds_toArray, List.set_cons_zero, List.set_cons_succ, List.getElem_toArray]
                      try simp only [List.getElem_cons_succ]
                      try simp only [List.getElem_cons_zero]
                      refine wpAnyH_take (i := 15) (v := ?_) rfl (by kernel_rfl) (by kernel_rfl) (by kernel_rfl) (fun _ _ _ h => h) (Or.inl ⟨by rfl, ?_⟩) (by assumption) ?_
                      rotate_left
                      · intro w hSw
                        (try dsimp only at hSw)
                        go_simp
                        (try with_reducible rfl)
                      try simp (maxSteps := 10000000) only [Act.put, List.setIfInBounds_toArray, List.set_cons_zero, List.set_cons_succ, List.getElem_toArray]
                      try simp only [List.getElem_cons_succ]
                      try simp only [List.getElem_cons_zero]
                      refine wpAnyH_take (i := 16) (v := ?_) rfl (by kernel_rfl) (by kernel_rfl) (by kernel_rfl) (fun _ _ _ h => h) (Or.inl ⟨by rfl, ?_⟩) (by assumption) ?_
                      rotate_left
                      · intro w hSw
                        (try dsimp only at hSw)
                        go_simp
                        (try with_reducible rfl)
                      try simp (maxSteps := 10000000) only [Act.put, List.setIfInBounds_toArray, List.set_cons_zero, List.set_cons_succ, List.getElem_toArray]
                      try simp only [List.getElem_cons_succ]
                      try simp only [List.getElem_cons_zero]
                      refine wpAnyH_ready (rs := [17]) (by kernel_rfl) (by simp) ?_
                      refine AllReadyH.cons rfl (fun K hK => ?_) AllReadyH.nil
                      go_simp
                      refine hK.out _ _ ?_ (fun hS => ?_)
                      · exact hBen2.c4
                      clear hK K
                      try simp (maxSteps := 10000000) only [Act.put, List.setIfInBounds_toArray, List.set_cons_zero, List.set_cons_succ, List.getElem_toArray]
                      try simp only [List.getElem_cons_succ]
                      try simp only [List.getElem_cons_zero]
                      refine wpAnyH_ready (rs := [18]) (by kernel_rfl) (by simp) ?_
                      refine AllReadyH.cons rfl (fun K hK => ?_) AllReadyH.nil
                      refine step_grow_rows rfl (.tmp 111) (.tmp 113) rfl none 0 olds rfl (fun _ => rfl) hol hold ⟨wr.heap.size, 0, none⟩ 1 _ rfl (cell_new1 _ _ _) rfl (by omega) ?_
                      intro g' cap w2 hg1 hg2 hcell hcap hgr
                      have hPts3 := hPts2.push hol hold hgr hg1 hg2 hcell hcap hBen2.bk.lt hri2 hmc hgpg
                      have hBen3 := hBen2.below (below_grown0 hgr)
                      have hb4 := hb3.trans ((below_grown0 hgr).mono hb3.size)
                      refine hK.out _ _ ?_ (fun hS => ?_)
                      · exact hBen3.c4
                      clear hK K
                      try simp (maxSteps := 10000000) only [Act.put, List.setIfInBounds_toArray, List.getElem_toArray]
                      try simp only [List.getElem_cons_succ]
                      try simp only [List.getElem_cons_zero]
                      refine wpAnyH_take (i := 19) (v := ?_) rfl (by kernel_rfl) (by kernel_rfl) (by kernel_rfl) (fun _ _ _ h => h) (Or.inl ⟨by rfl, ?_⟩) (by assumption) ?_
                      rotate_left
                      · intro w hSw
                        (try dsimp only at hSw)
                        go_simp
                        (try with_reducible rfl)
                      try simp (maxSteps := 10000000) only [Act.put, List.setIfInBounds_toArray, List.set_cons_zero, List.set_cons_succ, List.getElem_toArray]
                      try simp only [List.getElem_cons_succ]
                      try simp only [List.getElem_cons_zero]
                      refine wpAnyH_take (i := 20) (v := ?_) rfl (by kernel_rfl) (by kernel_rfl) (by kernel_rfl) (fun _ _ _ h => h) (Or.inl ⟨by rfl, ?_⟩) (by assumption) ?_
                      rotate_left
                      · intro w hSw
                        (try dsimp only at hSw)
                        go_simp
                        (try with_reducible rfl)
                      try simp (maxSteps := 10000000) only [Act.put, List.setIfInBounds_toArray, List.set_cons_zero, List.set_cons_succ, List.getElem_toArray]
                      try simp only [List.getElem_cons_succ]
                      try simp only [List.getElem_cons_zero]
                      refine wpAnyH_done (by kernel_rfl) ?_ _
                      unfold lastQ
                      have d4 := hBen3.c4
                      have f4 := hBen3.bk.frozen 4
                      have hPts4 := hPts3.store (u := .slice (some ⟨g', 0, none⟩) (0 + 1) cap) (o := 4)
                      have hBen4 : Ben (w2.setCell ⟨g, 4, none⟩ (.slice (some ⟨g', 0, none⟩) (0 + 1) cap)) g mb cnt D' N S AN AP (some ⟨g', 0, none⟩) n cN n cP (0 + 1) cap := ⟨hBen3.bk.set_ 4 _, hBen3.mp.setCell (by show mb ≠ g; omega) _, hBen3.tu⟩
                      rw [← HY.out] at hPts4
                      have hb5 := hb4.setCell (p := ⟨g, 4, none⟩) (by show w.heap.size ≤ g; omega) (.slice (some ⟨g', 0, none⟩) (0 + 1) cap)
                      clear hS
                      go_wp2
                      exact ⟨⟨i + 1, 0 + 1, cap, some ⟨g', 0, none⟩, by omega, by go_num, hBen4, hPts4, hb5⟩, by simp [intOf]; omega⟩
                    | some aq =>
                      clear hPts hb hBen
                      refine wp_region_lastL (fun V => V.cell? ⟨g, 4, none⟩ = some (.slice (some aq) nq cq)) hmix rfl (by kernel_rfl) c4 (fun hS => ?_)
                      simp only [List.dropLast_cons_cons, List.dropLast_singleton, List.length_cons, List.length_nil, Nat.reduceAdd]
                      refine wpAnyH_take (i := 0) (v := ?_) rfl (by kernel_rfl) (by kernel_rfl) (by kernel_rfl) (fun _ _ _ h => h) (Or.inl ⟨by rfl, ?_⟩) (by assumption) ?_
                      rotate_left
                      · intro w hSw
                        (try dsimp only at hSw)
                        go_simp
                        (try with_reducible rfl)
                      try simp (maxSteps := 10000000) only [Act.put, List.setIfInBounds_toArray, List.getElem_toArray]
                      try simp only [List.getElem_cons_succ]
                      try simp only [List.getElem_cons_zero]
                      refine wpAnyH_take (i := 1) (v := ?_) rfl (by kernel_rfl) (by kernel_rfl) (by kernel_rfl) (fun _ _ _ h => h) (Or.inl ⟨by rfl, ?_⟩) (by assumption) ?_
                      rotate_left
                      · intro w hSw
                        (try dsimp only at hSw)
                        go_simp
                        (try with_reducible rfl)
                      try simp (maxSteps := 10000000) only [Act.put, List.setIfInBounds_toArray, List.set_cons_zero, List.set_cons_succ, List.getElem_toArray]
                      try simp only [List.getElem_cons_succ]
                      try simp only [List.getElem_cons_zero]
                      refine wpAnyH_take (i := 2) (v := ?_) rfl (by kernel_rfl) (by kernel_rfl) (by kernel_rfl) (fun _ _ _ h => h) (Or.inl ⟨by rfl, ?_⟩) (by assumption) ?_
                      rotate_left
                      · intro w hSw
                        (try dsimp only at hSw)
                        go_simp
                        (try with_reducible rfl)
                      try simp (maxSteps := 10000000) only [Act.put, List.setIfInBounds_toArray, List.set_cons_zero, List.set_cons_succ, List.getElem_toArray]
                      try simp only [List.getElem_cons_succ]
                      try simp only [List.getElem_cons_zero]
                      refine wpAnyH_take (i := 3) (v := ?_) rfl (by kernel_rfl) (by kernel_rfl) (by kernel_rfl) (fun _ _ _ h => h) (Or.inl ⟨by rfl, ?_⟩) (by assumption) ?_
                      rotate_left
                      · intro w hSw
                        (try dsimp only at hSw)
                        go_simp
                        (try with_reducible rfl)
                      try simp (maxSteps := 10000000) only [Act.put, List.setIfInBounds_toArray, List.set_cons_zero, List.set_cons_succ, List.getElem_toArray]
                      try simp only [List.getElem_cons_succ]
                      try simp only [List.getElem_cons_zero]
                      refine wpAnyH_take (i := 4) (v := ?_) rfl (by kernel_rfl) (by kernel_rfl) (by kernel_rfl) (fun _ _ _ h => h) (Or.inl ⟨by rfl, ?_⟩) (by assumption) ?_
                      rotate_left
                      · intro w hSw
                        (try dsimp only at hSw)
                        go_simp
                        (try with_reducible rfl)
                      try simp (maxSteps := 10000000) only [Act.put, List.setIfInBounds_toArray, List.set_cons_zero, List.set_cons_succ, List.getElem_toArray]
                      try simp only [List.getElem_cons_succ]
                      try simp only [List.getElem_cons_zero]
                      refine wpAnyH_take (i := 5) (v := ?_) rfl (by kernel_rfl) (by kernel_rfl) (by kernel_rfl) (fun _ _ _ h => h) (Or.inl ⟨by rfl, ?_⟩) (by assumption) ?_
                      rotate_left
                      · intro w hSw
                        (try dsimp only at hSw)
                        go_simp
                        (try with_reducible rfl)
                      try simp (maxSteps := 10000000) only [Act.put, List.setIfInBounds_toArray, List.set_cons_zero, List.set_cons_succ, List.getElem_toArray]
                      try simp only [List.getElem_cons_succ]
                      try simp only [List.getElem_cons_zero]
                      refine wpAnyH_take (i := 6) (v := ?_) rfl (by kernel_rfl) (by kernel_rfl) (by kernel_rfl) (fun _ _ _ h => h) (Or.inl ⟨by rfl, ?_⟩) (by assumption) ?_
                      rotate_left
                      · intro w hSw
                        (try dsimp only at hSw)
                        go_simp
                        (try with_reducible rfl)
                      try simp (maxSteps := 10000000) only [Act.put, List.setIfInBounds_toArray, List.set_cons_zero, List.set_cons_succ, List.getElem_toArray]
                      try simp only [List.getElem_cons_succ]
                      try simp only [List.getElem_cons_zero]
                      refine wpAnyH_take (i := 7) (v := ?_) rfl (by kernel_rfl) (by kernel_rfl) (by kernel_rfl) (fun _ _ _ h => h) (Or.inl ⟨by rfl, ?_⟩) (by assumption) ?_
                      rotate_left
                      · intro w hSw
                        (try dsimp only at hSw)
                        go_simp
                        (try with_reducible rfl)
                      try simp (maxSteps := 10000000) only [Act.put, List.setIfInBounds_toArray, List.set_cons_zero, List.set_cons_succ, List.getElem_toArray]
                      try simp only [List.getElem_cons_succ]
                      try simp only [List.getElem_cons_zero]
                      refine wpAnyH_take (i := 8) (v := ?_) rfl (by kernel_rfl) (by kernel_rfl) (by kernel_rfl) (fun _ _ _ h => h) (Or.inl ⟨by rfl, ?_⟩) (by assumption) ?_
                      rotate_left
                      · intro w hSw
                        (try dsimp only at hSw)
                        go_simp
                        (try with_reducible rfl)
                      try simp (maxSteps := 10000000) only [Act.put, List.setIfInBounds_toArray, List.set_cons_zero, List.set_cons_succ, List.getElem_toArray]
                      try simp only [List.getElem_cons_succ]
                      try simp only [List.getElem_cons_zero]
                      refine wpAnyH_take (i := 9) (v := ?_) rfl (by kernel_rfl) (by kernel_rfl) (by kernel_rfl) (fun _ _ _ h => h) (Or.inl ⟨by rfl, ?_⟩) (by assumption) ?_
                      rotate_left
                      · intro w hSw
                        (try dsimp only at hSw)
                        go_simp
                        (try with_reducible rfl)
                      try simp (maxSteps := 10000000) only [Act.put, List.setIfInBounds_toArray, List.set_cons_zero, List.set_cons_succ, List.getElem_toArray]
                      try simp only [List.getElem_cons_succ]
                      try simp only [List.getElem_cons_zero]
                      refine wpAnyH_take (i := 10) (v := ?_) rfl (by kernel_rfl) (by kernel_rfl) (by kernel_rfl) (fun _ _ _ h => h) (Or.inl ⟨by rfl, ?_⟩) (by assumption) ?_
                      rotate_left
                      · intro w hSw
                        (try dsimp only at hSw)
                        go_simp
                        (try with_reducible rfl)
                      try simp (maxSteps := 10000000) only [Act.put, List.setIfInBounds_toArray, List.set_cons_zero, List.set_cons_succ, List.getElem_toArray]
                      try simp only [List.getElem_cons_succ]
                      try simp only [List.getElem_cons_zero]
                      refine wpAnyH_take (i := 11) (v := ?_) rfl (by kernel_rfl) (by kernel_rfl) (by kernel_rfl) (fun _ _ _ h => h) (Or.inl ⟨by rfl, ?_⟩) (by assumption) ?_
                      rotate_left
                      · intro w hSw
                        (try dsimp only at hSw)
                        go_simp
                        (try with_reducible rfl)
                      try simp (maxSteps := 10000000) only [Act.put, List.setIfInBounds_toArray, List.set_cons_zero, List.set_cons_succ, List.getElem_toArray]
                      try simp only [List.getElem_cons_succ]
                      try simp only [List.getElem_cons_zero]
                      refine wpAnyH_take (i := 12) (v := ?_) rfl (by kernel_rfl) (by kernel_rfl) (by kernel_rfl) (fun _ _ _ h => h) (Or.inl ⟨by rfl, ?_⟩) (by assumption) ?_
                      rotate_left
                      · intro w hSw
                        (try dsimp only at hSw)
                        go_simp
                        (try with_reducible rfl)
                      try simp (maxSteps := 10000000) only [Act.put, List.setIfInBounds_toArray, List.set_cons_zero, List.set_cons_succ, List.getElem_toArray]
                      try simp only [List.getElem_cons_succ]
                      try simp only [List.getElem_cons_zero]
                      refine wpAnyH_take (i := 13) (v := ?_) rfl (by kernel_rfl) (by kernel_rfl) (by kernel_rfl) (fun _ _ _ h => h) (Or.inl ⟨by rfl, ?_⟩) (by assumption) ?_
                      rotate_left
                      · intro w hSw
                        (try dsimp only at hSw)
                        go_simp
                        (try with_reducible rfl)
                      try simp (maxSteps := 10000000) only [Act.put, List.setIfInBounds_toArray, List.set_cons_zero, List.set_cons_succ, List.getElem_toArray]
                      try simp only [List.getElem_cons_succ]
                      try simp only [List.getElem_cons_zero]
                      refine wpAnyH_take (i := 14) (v := ?_) rfl (by kernel_rfl) (by kernel_rfl) (by kernel_rfl) (fun _ _ _ h => h) (Or.inl ⟨by rfl, ?_⟩) (by assumption) ?_
                      rotate_left
                      · intro w hSw
                        (try dsimp only at hSw)
                        go_simp
                        (try with_reducible rfl)
                      try simp (maxSteps := 10000000) only [Act.put, List.setIfInBounds_toArray, List.set_cons_zero, List.set_cons_succ, List.getElem_toArray]
                      try simp only [List.getElem_cons_succ]
                      try simp only [List.getElem_cons_zero]
                      refine wpAnyH_take (i := 15) (v := ?_) rfl (by kernel_rfl) (by kernel_rfl) (by kernel_rfl) (fun _ _ _ h => h) (Or.inl ⟨by rfl, ?_⟩) (by assumption) ?_
                      rotate_left
                      · intro w hSw
                        (try dsimp only at hSw)
                        go_simp
                        (try with_reducible rfl)
                      try simp (maxSteps := 10000000) only [Act.put, List.setIfInBounds_toArray, List.set_cons_zero, List.set_cons_succ, List.getElem_toArray]
                      try simp only [List.getElem_cons_succ]
                      try simp only [List.getElem_cons_zero]
                      refine wpAnyH_take (i := 16) (v := ?_) rfl (by kernel_rfl) (by kernel_rfl) (by kernel_rfl) (fun _ _ _ h => h) (Or.inl ⟨by rfl, ?_⟩) (by assumption) ?_
                      rotate_left
                      · intro w hSw
                        (try dsimp only at hSw)
                        go_simp
                        (try with_reducible rfl)
                      try simp (maxSteps := 10000000) only [Act.put, List.setIfInBounds_toArray, List.set_cons_zero, List.set_cons_succ, List.getElem_toArray]
                      try simp only [List.getElem_cons_succ]
                      try simp only [List.getElem_cons_zero]
                      refine wpAnyH_ready (rs := [17]) (by kernel_rfl) (by simp) ?_
                      refine AllReadyH.cons rfl (fun K hK => ?_) AllReadyH.nil
                      go_simp
                      refine hK.out _ _ ?_ (fun hS => ?_)
                      · exact hBen2.c4
                      clear hK K
                      try simp (maxSteps := 10000000) only [Act.put, List.setIfInBounds_toArray, List.set_cons_zero, List.set_cons_succ, List.getElem_toArray]
                      try simp only [List.getElem_cons_succ]
                      try simp only [List.getElem_cons_zero]
                      refine wpAnyH_ready (rs := [18]) (by kernel_rfl) (by simp) ?_
                      refine AllReadyH.cons rfl (fun K hK => ?_) AllReadyH.nil
                      refine step_grow_rows rfl (.tmp 111) (.tmp 113) rfl (some aq) nq olds rfl (fun e => (by cases e)) hol hold ⟨wr.heap.size, 0, none⟩ 1 _ rfl (cell_new1 _ _ _) rfl (by omega) ?_
                      intro g' cap w2 hg1 hg2 hcell hcap hgr
                      have hPts3 := hPts2.push hol hold hgr hg1 hg2 hcell hcap hBen2.bk.lt hri2 hmc hgpg
                      have hBen3 := hBen2.below (below_grown0 hgr)
                      have hb4 := hb3.trans ((below_grown0 hgr).mono hb3.size)
                      refine hK.out _ _ ?_ (fun hS => ?_)
                      · exact hBen3.c4
                      clear hK K
                      try simp (maxSteps := 10000000) only [Act.put, List.setIfInBounds_toArray, List.getElem_toArray]
                      try simp only [List.getElem_cons_succ]
                      try simp only [List.getElem_cons_zero]
                      refine wpAnyH_take (i := 19) (v := ?_) rfl (by kernel_rfl) (by kernel_rfl) (by kernel_rfl) (fun _ _ _ h => h) (Or.inl ⟨by rfl, ?_⟩) (by assumption) ?_
                      rotate_left
                      · intro w hSw
                        (try dsimp only at hSw)
                        go_simp
                        (try with_reducible rfl)
                      try simp (maxSteps := 10000000) only [Act.put, List.setIfInBounds_toArray, List.set_cons_zero, List.set_cons_succ, List.getElem_toArray]
                      try simp only [List.getElem_cons_succ]
                      try simp only [List.getElem_cons_zero]
                      refine wpAnyH_take (i := 20) (v := ?_) rfl (by kernel_rfl) (by kernel_rfl) (by kernel_rfl) (fun _ _ _ h => h) (Or.inl ⟨by rfl, ?_⟩) (by assumption) ?_
                      rotate_left
                      · intro w hSw
                        (try dsimp only at hSw)
                        go_simp
                        (try with_reducible rfl)
                      try simp (maxSteps := 10000000) only [Act.put, List.setIfInBounds_toArray, List.set_cons_zero, List.set_cons_succ, List.getElem_toArray]
                      try simp only [List.getElem_cons_succ]
                      try simp only [List.getElem_cons_zero]
                      refine wpAnyH_done (by kernel_rfl) ?_ _
                      unfold lastQ
                      have d4 := hBen3.c4
                      have f4 := hBen3.bk.frozen 4
                      have hPts4 := hPts3.store (u := .slice (some ⟨g', 0, none⟩) (nq + 1) cap) (o := 4)
                      have hBen4 : Ben (w2.setCell ⟨g, 4, none⟩ (.slice (some ⟨g', 0, none⟩) (nq + 1) cap)) g mb cnt D' N S AN AP (some ⟨g', 0, none⟩) n cN n cP (nq + 1) cap := ⟨hBen3.bk.set_ 4 _, hBen3.mp.setCell (by show mb ≠ g; omega) _, hBen3.tu⟩
                      rw [← HY.out] at hPts4
                      have hb5 := hb4.setCell (p := ⟨g, 4, none⟩) (by show w.heap.size ≤ g; omega) (.slice (some ⟨g', 0, none⟩) (nq + 1) cap)
                      clear hS
                      go_wp2
                      exact ⟨⟨i + 1, nq + 1, cap, some ⟨g', 0, none⟩, by omega, by go_num, hBen4, hPts4, hb5⟩, by simp [intOf]; omega⟩
                  · have HN : Hid (partsL N n (i + 1) = partsL N n i) := Lib.hid (partsL_no fun h => hmem (by rw [← HPT.out]; exact h.2))
                    rw [← HN.out] at hPts
                    have HD : Hid (decide ((i : Int) ∈ part) = false) := Lib.hid (decide_eq_false hmem)
                    clear hmem
                    go_wp2_with (go_at_call 67; refine (fContains _ _ _ _ _ _ _ hri (by omega)).mono ?_; rintro e w5 ⟨rfl, rfl⟩; rw [HD.out])
                    exact ⟨⟨i + 1, nq, cq, AQ, by omega, by go_num, hBen, hPts, hb⟩, by simp [intOf]; omega⟩
            · obtain rfl : n = i := by omega
              have hgw : w.heap.size ≤ g := by omega
              rw [← hN.out] at hBen hPts
              have HB := Lib.hid hBen
              have HP := Lib.hid hPts
              clear hBen hPts
              go_wp2
              rw [Exit.noGoto_ret]
              go_ret
              exact ⟨g, mb, cnt, D', AQ, nq, cq, rfl, HB.out, HP.out, hgw, hb⟩
        · intro xa xb c kl yd yp w1 cnt1 hkey hlk hy hat hrg1 hlt hg1 hs1 hen
          obtain ⟨c2, hc2, hyd, hwc⟩ := plainElem_int_inv under_i64 hy
          cases hc2
          cases hyd
          simp only [tv] at hkey hen ⊢
          have hbk1 := hbk.grown hg1 (by simp; omega)
          have hb1 := hb.grown hg1 hb.size (fun j hj => by cases hj; omega)
          have HLE := hrg.left_eq
          clear hrg hbk hb hy
          have c3 : w1.cell? ⟨g, 3, none⟩ = some (.map (some mb)) := hbk1.cell 3
          have hat0 := hat (.lit (.int .i64 0))
          have hrs1 : r < w1.heap.size := by omega
          clear hs1
          by_cases hc0 : c = 0
          · subst hc0
            have hbk2 := hbk1.alloc (.cells #[.int .i64 xa, .int .i64 xb] 218)
            have hrg2 := hrg1.alloc (.cells #[.int .i64 xa, .int .i64 xb] 218)
            have hb2 := hb1.alloc hb1.size (.cells #[.int .i64 xa, .int .i64 xb] 218)
            have hnb := Bk.new w1 218 #[.int .i64 xa, .int .i64 xb]
            have hsz : r < (w1.alloc (.cells #[.int .i64 xa, .int .i64 xb] 218)).heap.size := by simp; omega
            go_wp2
            generalize w1.alloc (.cells #[.int .i64 xa, .int .i64 xb] 218) = W1 at *
            have d3 : W1.drew.cell? ⟨g, 3, none⟩ = some (.map (some mb)) := hbk2.cell 3
            have e0 : W1.drew.cell? ⟨w1.heap.size, 0, none⟩ = some (.int .i64 xa) := hnb.cell 0
            have e1 : W1.drew.cell? ⟨w1.heap.size, 1, none⟩ = some (.int .i64 xb) := hnb.cell 1
            have hrg3 : W1.drew.ranges Tryz.prog 218 (plainElem (H := Unit) Tryz.prog 2) mb r cnt D' (fun z => left z && !z.sameKey kl) cnt1 := hrg2
            have hbk3 : Bk W1.drew g 105 #[.int .i64 S, .slice AN n cN, .slice AP n cP, .map (some mb), .slice none 0 0] := hbk2
            have hb3 := below_drewN hb2 1
            have hsz3 : r < W1.drew.heap.size := hsz
            have HT2 := Lib.hid (HT.out.del hat0)
            refine wp_region_still_tail 5 (by kernel_rfl) (by kernel_rfl) ?_
            simp only [List.take_succ_cons, List.take_zero, List.drop_succ_cons, List.drop_zero]
            change wpStill _ _ W1.drew _ _ _
            change Below w.heap.size w W1.drew at hb3
            iterate 5 still_step
            refine wpStill_nil ?_
            obtain ⟨w2, cnt2, hrun, hrg4, hle, hturn⟩ := hrg3.drop lawT under_turns hkey 0
            have hbk4 := hbk3.grown hturn.grown (by simp; omega)
            have hb4 := hb3.grown hturn.grown hb3.size (fun j hj => by cases hj; omega)
            have hsz4 : r < w2.heap.size := Nat.lt_of_lt_of_le hsz3 hturn.grown.size
            go_wp2
            exact ⟨⟨_, cnt2, _, hrg4, HT2, hbk4, hsz4, hb4⟩, by rw [hrg4.left_eq, HLE]; omega⟩
          · have he : (c == 0) = false := by simpa using hc0
            go_wp2
            exact ⟨⟨_, cnt1, D', hrg1.alloc _, HT, hbk1.alloc _, by simp; omega, hb1.alloc hb1.size _⟩, by rw [(hrg1.alloc _).left_eq, HLE]; exact hlt⟩
end Go.Proofs.YtibmpjhffeinoaaGreat
