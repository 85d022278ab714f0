/-
  wheel: 'table'.
  slices.Clone, slices.Delete of a row of numbers.
-/
import Derived.Test.YtibmpjhffeinoaaGreatNc
import Derived.Lib.SliceRun
import Derived.Shelf.Slices.Clone
import Derived.Lib.SlicesDelete
import Derived.Deep.RegionLaw
import Derived.Deep.LoopGhost
import Derived.Lib.Walk
namespace Go.Proofs.YtibmpjhffeinoaaGreat
open Go.RowKit Go.Shelf Go.Maps

/-- One number of the table. -/
def tE (S : Int) (N : Nat → Nat → Int) (x y : Int) : Int := (if x = y then S else 0) - N x.toNat y.toNat
/-- The table of some states. -/
def tabL (S : Int) (N : Nat → Nat → Int) (st : List Int) : List (List Int) := st.map fun x => st.map (tE S N x)
/-- A row, written as far as j. -/
def prow (f : Int → Int) (st : List Int) (j : Nat) : List Int := (st.take j).map f ++ List.replicate (st.length - j) 0
theorem prow_len (f : Int → Int) (st : List Int) (j : Nat) (hj : j ≤ st.length) : (prow f st j).length = st.length := by
  unfold prow
  simp
  omega
theorem prow_nth (f : Int → Int) (st : List Int) (j : Nat) (hj : j < st.length) : nth (prow f st j) j = 0 := by
  unfold prow nth
  rw [List.getElem?_append_right (by simp; omega)]
  simp only [List.length_map, List.length_take]
  rw [List.getElem?_replicate]
  split <;> rfl
theorem prow_set {f : Int → Int} {st : List Int} {j : Nat} {y : Int} (h : st[j]? = some y) : (prow f st j).set j (f y) = prow f st (j + 1) := by
  have hj := (List.getElem?_eq_some_iff.1 h).1
  unfold prow
  rw [List.set_append_right _ _ (by simp; omega)]
  rw [List.take_add_one, h]
  obtain ⟨m, hm⟩ : ∃ m, st.length - j = m + 1 := ⟨st.length - j - 1, by omega⟩
  have h2 : st.length - (j + 1) = m := by omega
  have h3 : j - min j st.length = 0 := by omega
  simp [hm, h2, h3, List.replicate_succ]
theorem prow_all (f : Int → Int) (st : List Int) : prow f st st.length = st.map f := by
  unfold prow
  simp
theorem prow_zero (f : Int → Int) (st : List Int) : prow f st 0 = List.replicate st.length 0 := by
  unfold prow
  simp
theorem zero_64 (w : World) : (zeroValue 2).run Tryz.prog w = .ok (.int .i64 0) w := zero_i64 w
theorem Oi.cleared {base g n c : Nat} : ∀ (m o : Nat) (w : World), Oi w base (some ⟨g, 0, none⟩) n c (List.replicate n 0) → Oi (w.setCells g o (List.replicate m (.int .i64 0))) base (some ⟨g, 0, none⟩) n c (List.replicate n 0)
  | 0, _, _, h => h
  | m + 1, o, w, h => by
    rw [List.replicate_succ]
    refine Oi.cleared m (o + 1) _ ?_
    have := h.put_ o 0
    rwa [show (List.replicate n (0 : Int)).set o 0 = List.replicate n 0 from by
      refine List.ext_getElem? fun i => ?_
      rw [List.getElem?_set]
      split
      · rename_i e
        subst e
        rw [List.getElem?_replicate]
        simp only [List.length_replicate]
      · rfl] at this
theorem below_setCells {B g : Nat} {w0 : World} (hg : B ≤ g) : ∀ (vs : List Value) (o : Nat) (w : World), Below B w0 w → Below B w0 (w.setCells g o vs)
  | [], _, _, h => h
  | v :: vs, o, _w, h => below_setCells hg vs (o + 1) _ (h.setCell (p := ⟨g, o, none⟩) hg v)
theorem clear_ints {w : World} {base g n c : Nat} {xs : List Int} (h : Oi w base (some ⟨g, 0, none⟩) n c xs) (hn : 0 < n) (ty : TypeId) : (Builtin.clear_ #[23] ty #[.slice (some ⟨g, 0, none⟩) n c]).run Tryz.prog w = .ok (.tuple #[]) (w.setCells g 0 (List.replicate n (.int .i64 0))) :=
  Lib.run_clear_slice w 23 2 ty (.int .i64 0) under_ints zero_i64 rfl rfl g 0 n c hn (fun j hj => by rw [Nat.zero_add, h.cell hj]; rfl) (fun j hj => by rw [Nat.zero_add]; exact h.frozen j)
set_option maxRecDepth 100000 in
set_option maxHeartbeats 3200000 in
theorem fTable (g mb cnt : Nat) (D : DataW Unit) (N : Nat → Nat → Int) (S : Int) (AN AP AQ : Option Addr) (n cN np cP nq cq : Nat) (A : Option Addr) (m c : Nat) (st : List Int) (w : World) (hb : Ben w g mb cnt D N S AN AP AQ n cN np cP nq cq) (hn : n ≤ 4) (hx : Ri w w.heap.size A m st) (hm : m ≤ 4) (hst : ∀ x ∈ st, ∃ k : Nat, x = k ∧ k < n) (hS : 0 ≤ S ∧ S ≤ 20) (hN : ∀ i k, i < n → k < n → 0 ≤ N i k ∧ N i k ≤ 20) :
    Calls Tryz.prog 278 #[.pointer (some ⟨g, 0, none⟩), .slice A m c] w fun e w' => ∃ A' c', e = .returned (.slice A' m c') ∧ Rw 23 w' w.heap.size A' m c' (tabL S N st) ∧ Below w.heap.size w w' := by
  have HL := Lib.hid hx.len
  have HBN := Lib.hid hb
  have HST := Lib.hid hst
  have HN := Lib.hid hN
  clear hst hN hb
  obtain ⟨F, hF⟩ : ∃ F : Int → List Int, Hid (F = fun x => st.map (tE S N x)) := ⟨_, Lib.hid rfl⟩
  have h0 : Hid ((st.take 0).map F = []) := Lib.hid (by simp)
  go_enter Tryz.func278, Tryz.ntmps278
  go_wp2
  go_loopw [5, 7, 8, 9, 10, 13, 23] (fun t5 _ _ _ _ t13 _ wr => ∃ (A5 : Option Addr) (c5 i : Nat), i ≤ m ∧ t13 = .int .i64 (i : Int) ∧ t5 = .slice A5 i c5 ∧ Rw 23 wr w.heap.size A5 i c5 ((st.take i).map F) ∧ Below w.heap.size w wr) (fun _ _ _ _ _ t13 _ _ => m - (intOf t13).toNat)
  case atStart => exact ⟨none, 0, 0, Nat.zero_le _, rfl, rfl, by rw [h0.out]; exact Rw.nil_ _ _ _, Below.refl _ _⟩
  case round =>
    clear h0
    obtain ⟨A5, c5, i, hi, rfl, rfl, hR, hb⟩ := hrel
    have hbs := hb.size
    by_cases him : i < m
    · have hxr := hx.below hb
      obtain ⟨adx, x, rfl, _, hcx, HX, _⟩ := hxr.at_ him
      go_wp2_with first | (at_make; refine make_ints rfl (.tmp 18) (.tmp 18) rfl m (m : Int) rfl rfl rfl (by omega) ?_; intro w1 ho1 hb1; have hcl := clear_ints ho1 (by omega); have hO := ho1.cleared m 0; have hb2 := below_setCells (Nat.le_refl _) (List.replicate m (.int .i64 0)) 0 _ hb1)
      generalize w1.setCells wr.heap.size 0 (List.replicate m (.int .i64 0)) = w2 at *
      clear hcl ho1 hb1 hxr hcx
      obtain ⟨v0, hv0⟩ : ∃ v0, v0 = wr := ⟨_, rfl⟩
      subst hv0
      obtain ⟨gl, HG⟩ : ∃ gl, Hid (v0.heap.size = gl) := ⟨_, Lib.hid rfl⟩
      have HR := Lib.hid hR
      have HB := Lib.hid hb
      rw [HG.out] at hO hb2 hbs ⊢
      have hO2 : Oi w2 gl (some ⟨gl, 0, none⟩) m m (prow (tE S N x) st 0) := by rw [prow_zero, HL.out]; exact hO
      clear hO hR hb
      have hrow : Hid (prow (tE S N x) st m = F x) := Lib.hid (by rw [hF.out, ← HL.out]; exact prow_all _ _)
      obtain ⟨xk, rfl, hxk⟩ := HST.out x (List.mem_of_getElem? HX.out)
      go_loopw [9, 10, 23] (fun _ _ t23 wr => ∃ j : Nat, j ≤ m ∧ t23 = .int .i64 (j : Int) ∧ Oi wr gl (some ⟨gl, 0, none⟩) m m (prow (tE S N (xk : Int)) st j) ∧ Below gl v0 wr) (fun _ _ t23 _ => m - (intOf t23).toNat)
      case atStart => exact ⟨0, Nat.zero_le _, rfl, hO2, hb2⟩
      case round =>
        clear hO2 hb2 w2
        obtain ⟨j, hj, rfl, hO, hbi⟩ := hrel
        have hb := HB.out.trans (hbi.mono hbs)
        have hben := HBN.out.below hb
        have c0 := hben.c0
        have c3 := hben.c3
        have hmp := hben.mp
        have HT := Lib.hid hben.tu
        clear hben
        by_cases hjm : j < m
        · have hxr := hx.below hb
          obtain ⟨ady, y, hady, _, hcy, HY, _⟩ := hxr.at_ hjm
          cases hady
          obtain ⟨yk, rfl, hyk⟩ := HST.out y (List.mem_of_getElem? HY.out)
          obtain ⟨kl, hkl⟩ := tk_ex (i := (xk : Int)) (k := (yk : Int)) (by omega) (by omega)
          obtain ⟨nv, hrun, hat, _⟩ := (World.ownsMap.drew hmp).lookup_int lawT under_turns under_i64 (zero_i64 _) hkl
          have HNV : Hid (nv = N xk yk) := Lib.hid (HT.out.look hxk hyk hkl hat)
          have hnv : 0 ≤ nv ∧ nv ≤ 20 := by rw [HNV.out]; exact HN.out xk yk hxk hyk
          clear hat hkl
          unfold tv at hrun
          have hcell := hO.cell hjm
          rw [prow_nth _ _ _ (by rw [HL.out]; exact hjm)] at hcell
          have hfr := hO.frozen j
          have c3d : wr.drew.cell? ⟨g, 3, none⟩ = some (.map (some mb)) := c3
          have hcd : wr.drew.cell? ⟨gl, j, none⟩ = some (.int .i64 0) := hcell
          have HRow := Lib.hid (prow_set (f := tE S N (xk : Int)) HY.out)
          go_wp2
          refine wp_region_still_tail 13 (by kernel_rfl) (by kernel_rfl) ?_
          simp only [List.take_succ_cons, List.take_zero, List.drop_succ_cons, List.drop_zero]
          change wpStill _ _ wr.drew _ _ _
          iterate 13 still_step
          refine wpStill_nil ?_
          have hO3 : Oi (wr.setCell ⟨gl, j, none⟩ (.int .i64 (-nv))).drew gl (some ⟨gl, 0, none⟩) m m ((prow (tE S N (xk : Int)) st j).set j (-nv)) := (hO.put_ j (-nv)).drew
          have hb3 : Below gl v0 (wr.setCell ⟨gl, j, none⟩ (.int .i64 (-nv))).drew := below_drewN (hbi.setCell (p := ⟨gl, j, none⟩) (Nat.le_refl _) (.int .i64 (-nv))) 1
          have c03 : (wr.setCell ⟨gl, j, none⟩ (.int .i64 (-nv))).drew.cell? ⟨g, 0, none⟩ = some (.int .i64 S) := (HBN.out.below (HB.out.trans (hb3.mono hbs))).c0
          by_cases hxy : xk = yk
          · have HE : Hid (tE S N (xk : Int) (yk : Int) = -nv + S) := Lib.hid (by unfold tE; rw [if_pos (by rw [hxy]), HNV.out]; simp; omega)
            have hxy2 : ((xk : Int) == (yk : Int)) = true := by simp [hxy]
            clear hxy
            go_wp2
            generalize (wr.setCell ⟨gl, j, none⟩ (.int .i64 (-nv))).drew = V at *
            have hcell2 := hO3.cell hjm
            rw [nth_set (by have := hO.len; omega), if_pos rfl] at hcell2
            have hfr2 := hO3.frozen j
            have c0d : V.drew.cell? ⟨g, 0, none⟩ = some (.int .i64 S) := c03
            have hcd2 : V.drew.cell? ⟨gl, j, none⟩ = some (.int .i64 (-nv)) := hcell2
            have hO4 : Oi (V.setCell ⟨gl, j, none⟩ (.int .i64 (-nv + S))).drew gl (some ⟨gl, 0, none⟩) m m (((prow (tE S N (xk : Int)) st j).set j (-nv)).set j (-nv + S)) := (hO3.put_ j (-nv + S)).drew
            have hb4 : Below gl v0 (V.setCell ⟨gl, j, none⟩ (.int .i64 (-nv + S))).drew := below_drewN (hb3.setCell (p := ⟨gl, j, none⟩) (Nat.le_refl _) (.int .i64 (-nv + S))) 1
            rw [List.set_set, ← HE.out, HRow.out, HE.out] at hO4
            refine wp_region_still_tail 10 (by kernel_rfl) (by kernel_rfl) ?_
            simp only [List.take_succ_cons, List.take_zero, List.drop_succ_cons, List.drop_zero]
            change wpStill _ _ V.drew _ _ _
            iterate 10 still_step
            refine wpStill_nil ?_
            go_wp2
            exact ⟨⟨j + 1, by omega, by go_num, hO4, hb4⟩, by simp [intOf]; omega⟩
          · have HE : Hid (tE S N (xk : Int) (yk : Int) = -nv) := Lib.hid (by unfold tE; rw [if_neg (by omega), HNV.out]; simp)
            have hxy2 : ((xk : Int) == (yk : Int)) = false := by simp; omega
            clear hxy
            rw [← HE.out, HRow.out, HE.out] at hO3
            go_wp2
            exact ⟨⟨j + 1, by omega, by go_num, hO3, hb3⟩, by simp [intOf]; omega⟩
        · obtain rfl : m = j := by omega
          rw [hrow.out] at hO
          have hR2 : Rw 23 wr w.heap.size A5 i c5 ((st.take i).map F) := HR.out.below (by rw [HG.out]; exact hbi)
          have hws := hb.size
          have HX2 : Hid ((st.take (i + 1)).map F = (st.take i).map F ++ [F (xk : Int)]) := Lib.hid (by rw [List.take_add_one, HX.out]; simp)
          clear c0 c3 hmp hrow
          go_wp2_with (at_builtin; refine push_row rowT_i64 rfl (.tmp 57) (.tmp 59) rfl w.heap.size A5 i c5 ((st.take i).map F) rfl (hR2.alloc _) ⟨wr.heap.size, 0, none⟩ 1 (some ⟨gl, 0, none⟩) m m (F (xk : Int)) rfl (cell_new1 _ _ _) (by omega) (by simp only [World.size_alloc]; omega) (hO.alloc _).ri (Nat.le_refl _) (fun _ ad' e' h' => (by cases e'; have q2 := (HR.out.lt gl h').2; rw [HG.out] at q2; exact absurd q2 (Nat.lt_irrefl _))) ?_; intro g1 cap1 w3 hR3 hg3; have hb5 := (hb.alloc hws (.cells #[.slice (some ⟨gl, 0, none⟩) m m] 23)).grown hg3 (by simp only [World.size_alloc]; omega) (fun k hk => (hR2.lt k hk).1); clear hR2)
          rw [← HX2.out] at hR3
          exact ⟨⟨some ⟨g1, 0, none⟩, cap1, i + 1, by omega, by go_num, rfl, hR3, hb5⟩, by simp [intOf]; omega⟩
    · obtain rfl : m = i := by omega
      have HT : Hid ((st.take m).map F = tabL S N st) := Lib.hid (by rw [List.take_of_length_le (by rw [HL.out]; omega), hF.out]; rfl)
      rw [HT.out] at hR
      go_wp2
      go_ret
      exact ⟨A5, c5, rfl, hR, hb⟩
end Go.Proofs.YtibmpjhffeinoaaGreat

namespace Go.Proofs.YtibmpjhffeinoaaGreat
open Go.RowKit Go.Shelf Go.Maps

theorem eql_nil64 (w : World) (a : Option Addr) (n c n' c' : Nat) : (binOp .eql 23 (.slice a n c) (.slice none n' c')).run Tryz.prog w = .ok (.bool a.isNone) w := Lib.run_eql_slice_nil w _ _ a n c n' c' under_ints
set_option maxRecDepth 100000 in
set_option maxHeartbeats 400000 in
theorem fClone (A : Option Addr) (n c : Nat) (xs : List Int) (w : World) (hx : Ri w w.heap.size A n xs) (h0 : 0 < n) (hn : n ≤ 100) :
    Calls Tryz.prog 279 #[.slice A n c] w fun e w' => ∃ g c', e = .returned (.slice (some ⟨g, 0, none⟩) n c') ∧ Oi w' w.heap.size (some ⟨g, 0, none⟩) n c' xs ∧ Below w.heap.size w w' := by
  obtain ⟨ad, rfl, _⟩ := hx.2 h0
  have q := eql_nil64
  have hlit := Oi.lit0 w
  have hb1 := (Below.refl w.heap.size w).alloc (Nat.le_refl _) (.cells #[] 2)
  have hs : w.heap.size ≤ (w.alloc (.cells #[] 2)).heap.size := by simp
  have hx1 : Ri (w.alloc (.cells #[] 2)) w.heap.size (some ad) n xs := hx.alloc (Nat.le_refl _) _
  go_enter Tryz.func279, Tryz.ntmps279
  go_wp2_with (at_builtin; refine push_ints rfl (.tmp 5) (.tmp 6) rfl w.heap.size _ 0 0 [] rfl hlit w.heap.size (some ad) n c xs rfl hx1 (by omega) (by omega) hs ?_; intro A7 c7 w3 hO3 hg3; rw [Nat.zero_add, List.nil_append] at hO3; obtain ⟨g7, hA7, _⟩ := hO3.row h0; subst hA7; have hb3 := hb1.grown hg3 hs (fun k hk => by cases hk; exact Nat.le_refl _))
  go_ret
  exact ⟨g7, c7, rfl, hO3, hb3⟩
/-- A row, written from o on. -/
def setL : List Int → Nat → List Int → List Int
  | xs, _, [] => xs
  | xs, o, y :: ys => setL (xs.set o y) (o + 1) ys
theorem Oi.setCells_ {base g n c : Nat} : ∀ (ys : List Int) (o : Nat) (w : World) (xs : List Int), Oi w base (some ⟨g, 0, none⟩) n c xs → Oi (w.setCells g o (ints ys)) base (some ⟨g, 0, none⟩) n c (setL xs o ys)
  | [], _, _, _, h => h
  | y :: ys, o, _w, _, h => Oi.setCells_ ys (o + 1) _ _ (h.put_ o y)
theorem Oi.cut {w : World} {base g n m c : Nat} {xs : List Int} (h : Oi w base (some ⟨g, 0, none⟩) n c xs) (hm : m ≤ n) : Oi w base (some ⟨g, 0, none⟩) m c (xs.take m) := by
  have hl := h.len
  rcases h.2 with ⟨e, _⟩ | ⟨g', cap, cur, e, h1, h2, h3, h4, h5, h6⟩
  · cases e
  · cases e
    refine ⟨by rw [ints_length, List.length_take]; omega, .inr ⟨g, c, cur, rfl, h1, h2, by omega, h4, h5, ?_⟩⟩
    rw [Nat.mul_one] at h6 ⊢
    rw [show ints (xs.take m) = (ints xs).take m from by simp [ints, List.map_take], ← h6, List.take_take, Nat.min_eq_left hm]
theorem setCells_grown {g : Nat} : ∀ (vs : List Value) (o : Nat) (w w' : World), w.grownBy w' (some g) → w.grownBy (w'.setCells g o vs) (some g)
  | [], _, _, _, h => h
  | v :: vs, o, w, w', h => setCells_grown vs (o + 1) w _ ⟨h.os, h.tape, h.output, by simpa [World.setCell] using h.size, fun k hk hne => (Below.heap_setCell w' ⟨g, o, none⟩ v k (fun e => hne (by rw [e]))).trans (h.block k hk hne)⟩
theorem del_row {xs : List Int} {n k : Nat} (hl : xs.length = n) (hn : n ≤ 3) (hk : k < n) : (setL (setL xs k (xs.drop (k + 1))) (n - 1) [0]).take (n - 1) = xs.eraseIdx k := by
  match xs, hl with
  | [], hl => simp at hl; omega
  | [a], hl =>
    simp at hl; subst hl
    obtain rfl : k = 0 := by omega
    rfl
  | [a, b], hl =>
    simp at hl; subst hl
    have : k = 0 ∨ k = 1 := by omega
    rcases this with rfl | rfl <;> rfl
  | [a, b, c], hl =>
    simp at hl; subst hl
    have : k = 0 ∨ k = 1 ∨ k = 2 := by omega
    rcases this with rfl | rfl | rfl <;> rfl
  | _ :: _ :: _ :: _ :: _, hl => simp at hl; omega
set_option maxRecDepth 1000000 in
set_option maxHeartbeats 4000000 in
theorem fDelete (base g n c k j : Nat) (xs : List Int) (w : World) (hO : Oi w base (some ⟨g, 0, none⟩) n c xs) (hk : k < n) (hj : j = k + 1) (hn : n ≤ 3) :
    Calls Tryz.prog 339 #[.slice (some ⟨g, 0, none⟩) n c, .int .i64 (k : Int), .int .i64 (j : Int)] w fun e w' => e = .returned (.slice (some ⟨g, 0, none⟩) (n - 1) c) ∧ Oi w' base (some ⟨g, 0, none⟩) (n - 1) c (xs.eraseIdx k) ∧ w.grownBy w' (some g) := by
  have mixed : Tryz.prog.follows Departure.mixedOrders = true := by kernel_rfl
  obtain ⟨i0, hi0, hz0, hz1, hz2⟩ := info_parts info_int
  have HLn := Lib.hid hO.len
  have hcap : n ≤ c := by
    rcases hO.2 with ⟨e, _⟩ | ⟨g', cap, cur, e, _, _, h3, _⟩
    · cases e
    · cases e; exact h3
  have hc63 : c ≤ maxLen := by
    rcases hO.2 with ⟨e, _⟩ | ⟨g', cap, cur, e, _, _, _, h3, _⟩
    · cases e
    · cases e; exact h3
  obtain ⟨news, HW⟩ : ∃ news, Hid (news = ints (xs.drop j)) := ⟨_, Lib.hid rfl⟩
  have hlen : news.length = n - j := by rw [HW.out, ints_length, List.length_drop, HLn.out]
  have hsrc : Hid (∀ t u, news[t]? = some u → w.drew.cell? ((⟨g, j, none⟩ : Addr).add t) = some u) := Lib.hid fun t u hu => by
    rw [HW.out] at hu
    unfold ints at hu
    rw [List.getElem?_map, Option.map_eq_some_iff] at hu
    obtain ⟨x, hx, rfl⟩ := hu
    rw [List.getElem?_drop] at hx
    have hlt : j + t < n := by have := (List.getElem?_eq_some_iff.1 hx).1; rw [HLn.out] at this; exact this
    have := hO.cell hlt
    rw [Addr.add_lit]
    show w.cell? _ = _
    rw [this]
    unfold nth
    rw [hx]
    rfl
  obtain ⟨A, hA, hsrc2⟩ : ∃ A : Addr, (if c = j then some (⟨g, 0, none⟩ : Addr) else some ⟨g, j, none⟩) = some A ∧ Hid (∀ t u, news[t]? = some u → w.drew.cell? (A.add t) = some u) := by
    by_cases h : c = j
    · refine ⟨⟨g, 0, none⟩, by simp [h], Lib.hid fun t u hu => ?_⟩
      have h0 : news.length = 0 := by rw [hlen]; omega
      rw [List.length_eq_zero_iff.1 h0] at hu
      simp at hu
    · exact ⟨⟨g, j, none⟩, by simp [h], hsrc⟩
  have s1 : Hid (news.length = (n - j) * 1) := Lib.hid (by rw [Nat.mul_one]; exact hlen)
  have s2 : Hid (∀ u ∈ news, u.oneCell' = true) := Lib.hid (by rw [HW.out]; exact ints_oneCell _ _)
  have s3 : Hid (∀ t, t < news.length → (w.drew.cell? ⟨g, 0 + k * 1 + t, none⟩).isSome = true ∧ w.drew.frozen? ⟨g, 0 + k * 1 + t, none⟩ = false) := Lib.hid fun t ht => by
    rw [hlen] at ht
    rw [Nat.mul_one, Nat.zero_add]
    exact ⟨by show (w.cell? _).isSome = true; rw [hO.cell (by omega)]; rfl, hO.frozen _⟩
  obtain ⟨W1, hW1⟩ : ∃ W1, W1 = w.drew.setCells g (0 + k * 1) news := ⟨_, rfl⟩
  have hO1 : Oi W1 base (some ⟨g, 0, none⟩) n c (setL xs k (xs.drop j)) := by
    rw [hW1, HW.out, Nat.mul_one, Nat.zero_add]
    exact Oi.setCells_ _ _ _ _ hO.drew
  have hcl : ∀ ty, (Builtin.clear_ #[23] ty #[.slice (some ⟨g, n - 1, none⟩) 1 (c - (n - 1))]).run Tryz.prog W1 = .ok (.tuple #[]) (W1.setCells g (n - 1) (List.replicate 1 (.int .i64 0))) := fun ty =>
    Lib.run_clear_slice W1 23 2 ty (.int .i64 0) under_ints zero_i64 rfl rfl g (n - 1) 1 _ (by omega) (fun t ht => by rw [hO1.cell (by omega)]; rfl) (fun t ht => hO1.frozen _)
  have hfin : Oi (W1.setCells g (n - 1) (List.replicate 1 (.int .i64 0))) base (some ⟨g, 0, none⟩) (n - 1) c (xs.eraseIdx k) := by
    have h1 := (Oi.setCells_ [0] (n - 1) _ _ hO1).cut (m := n - 1) (by omega)
    rw [hj, del_row HLn.out hn hk] at h1
    exact h1
  have hgr : w.grownBy (W1.setCells g (n - 1) (List.replicate 1 (.int .i64 0))) (some g) := by
    refine setCells_grown _ _ _ _ ?_
    rw [hW1]
    exact setCells_grown _ _ _ _ ⟨rfl, rfl, rfl, Nat.le_refl _, fun _ _ _ => rfl⟩
  generalize W1.setCells g (n - 1) (List.replicate 1 (.int .i64 0)) = W2 at *
  have hcl2 : ∀ ty, (Builtin.clear_ #[23] ty #[.slice (some ⟨g, k + (n - j), none⟩) (n - (k + (n - j))) (c - (k + (n - j)))]).run Tryz.prog W1 = .ok (.tuple #[]) W2 := fun ty => by
    have e1 : k + (n - j) = n - 1 := by omega
    have e2 : n - (n - 1) = 1 := by omega
    rw [e1, e2]
    exact hcl ty
  have HE : Hid (k + (n - j) = n - 1) := Lib.hid (by omega)
  clear hcl
  have hW : Hid (W1 = w.drew.setCells g (0 + k * 1) news) := Lib.hid hW1
  have hkc : k ≤ c := by omega
  have hjc : j ≤ c := by omega
  have hjn : j ≤ n := by omega
  have hkj : k ≤ j := by omega
  have hne : ¬ k = j := by omega
  unfold maxLen at hc63
  have HO1 := Lib.hid hO1
  have HF := Lib.hid hfin
  have HG := Lib.hid hgr
  clear hW1 hsrc hj hlen hO hO1 hfin hgr
  go_enter Tryz.func339, Tryz.ntmps339
  go_wp2_with fail
  go_region_law_o (refine step_append_room rfl (.tmp 22) (.tmp 25) 23 rfl 2 i0 1 under_ints hi0 hz1 g 0 k c (by simp [Act.eval, Act.put]) A (n - j) (c - j) news (by simp [Act.eval, Act.put]) s1.out hsrc2.out s2.out (by omega) s3.out ?_; rw [← hW.out])
  go_wp2
  go_ret
  exact ⟨by rw [HE.out]; rfl, HF.out, HG.out⟩
end Go.Proofs.YtibmpjhffeinoaaGreat
