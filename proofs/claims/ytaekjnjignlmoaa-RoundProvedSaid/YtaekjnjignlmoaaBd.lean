/-
  Bounds that are read; the closures of 'CheckBounds'.
-/
import Derived.Test.YtaekjnjignlmoaaCk
import Derived.Test.YtaekjnjignlmoaaPlain
namespace Go.Proofs.Ytaekjnjignlmoaa
open Go.RowKit Go.Shelf

/-- Rows of pairs of numbers that are read. -/
def Bd (w : World) (B : Nat) (A : Option Addr) (n : Nat) (Rs : List (List (Int × Int))) : Prop :=
  ∃ vs, Rd w B 1 A n vs ∧ vs.length = Rs.length ∧ ∀ (i : Nat) (L : List (Int × Int)), Rs[i]? = some L → ∃ (A' : Option Addr) (c' : Nat), vs[i]? = some (.slice A' L.length c') ∧ L.length ≤ c' ∧ Rp w B A' L.length L
section
variable {w w' : World} {B B' n : Nat} {A : Option Addr} {Rs : List (List (Int × Int))}
theorem Bd.len (h : Bd w B A n Rs) : Rs.length = n := by
  obtain ⟨vs, h1, h2, _⟩ := h
  have := h1.1
  omega
theorem Bd.more (h : Bd w B A n Rs) (hB : B ≤ B') : Bd w B' A n Rs := by
  obtain ⟨vs, h1, h2, h3⟩ := h
  refine ⟨vs, h1.more hB, h2, fun i L hL => ?_⟩
  obtain ⟨A', c', h4, h5, h6⟩ := h3 i L hL
  exact ⟨A', c', h4, h5, h6.more hB⟩
theorem Bd.below (h : Bd w B A n Rs) (hb : Below B w w') : Bd w' B A n Rs := by
  obtain ⟨vs, h1, h2, h3⟩ := h
  refine ⟨vs, h1.below hb, h2, fun i L hL => ?_⟩
  obtain ⟨A', c', h4, h5, h6⟩ := h3 i L hL
  exact ⟨A', c', h4, h5, h6.below hb⟩
theorem Bd.below' (h : Bd w B A n Rs) (hb : Below B' w w') (hle : B ≤ B') : Bd w' B A n Rs := h.below (hb.mono hle)
theorem Bd.next (h : Bd w B A n Rs) (hb : Below B' w w') (hle : B ≤ B') (hle2 : B' ≤ w'.heap.size) : Bd w' w'.heap.size A n Rs := (h.below' hb hle).more (Nat.le_trans hle hle2)
theorem Bd.drewN (h : Bd w B A n Rs) (k : Nat) : Bd (w.drewN k) B A n Rs := h
theorem Bd.at_ (h : Bd w B A n Rs) {i : Nat} (hi : i < n) : ∃ (ad : Addr) (A' : Option Addr) (c' m : Nat) (L : List (Int × Int)), A = some ad ∧ ad.block < B ∧ w.cell? (ad.add i) = some (.slice A' m c') ∧ Hid (Rs[i]? = some L) ∧ Hid (L.length = m) ∧ m ≤ c' ∧ Rp w B A' m L := by
  have hl := h.len
  obtain ⟨vs, h1, h2, h3⟩ := h
  obtain ⟨ad, e, hb, hc⟩ := h1.2 (by omega)
  obtain ⟨A', c', h4, h5, h6⟩ := h3 i Rs[i] (List.getElem?_eq_getElem (by omega))
  obtain ⟨h7, h8⟩ := List.getElem?_eq_some_iff.1 h4
  exact ⟨ad, A', c', _, Rs[i], e, hb, by rw [hc i h7, h8], Lib.hid (List.getElem?_eq_getElem (by omega)), Lib.hid rfl, h5, h6⟩
end

/-- A number of bounds. -/
def gvE (Rs : List (List (Int × Int))) (x y e : Nat) : Int := if e = 0 then plc (Rs[x]?.getD []) y else too (Rs[x]?.getD []) y

set_option maxRecDepth 100000 in
set_option maxHeartbeats 1000000 in
theorem fOther (pk wk g n c m c' q : Nat) (A A' : Option Addr) (w : World) (h1 : w.cell? ⟨pk, 1, none⟩ = some (.slice A n c)) (h2 : w.cell? ⟨wk, 0, none⟩ = some (.pointer (some ⟨g, 0, none⟩))) (h3 : w.cell? ⟨g, 2, none⟩ = some (.int .i64 (q : Int))) (hq : q ≤ n) (hn : n ≤ 10) (_hm : m ≤ 1099511627776) :
    Calls Try.prog 75 #[.slice A' m c', .pointer (some ⟨pk, 0, none⟩), .pointer (some ⟨wk, 0, none⟩)] w (RetB w (!decide (m = n - q + 1))) := by
  obtain ⟨r, HR⟩ : ∃ r, Hid (n - q = r) := ⟨_, Lib.hid rfl⟩
  have hw1 : IntKind.i64.wrap ((n : Int) - (q : Int)) = (r : Int) := by rw [IntWalk.i64_in _ (by omega)]; have := HR.out; omega
  have hr10 : r ≤ 10 := by have := HR.out; omega
  obtain ⟨k, HK⟩ : ∃ k, Hid (r + 1 = k) := ⟨_, Lib.hid rfl⟩
  have hw2 : IntKind.i64.wrap ((r : Int) + 1) = (k : Int) := by rw [IntWalk.i64_in _ (by omega)]; have := HK.out; omega
  have HE : Hid ((!decide (m = n - q + 1)) = !((m : Int) == (k : Int))) := Lib.hid (by
    rw [HR.out, HK.out]
    by_cases h : m = k
    · simp [h]
    · have h' : ¬ (m : Int) = (k : Int) := by omega
      simp [h, h'])
  go_enter Try.func75, Try.ntmps75
  go_wp2
  go_quiet (fail)
  go_wp2
  go_ret
  exact ⟨ret_b HE.out.symm, below_drewN (Below.refl _ _) _⟩

set_option maxRecDepth 100000 in
set_option maxHeartbeats 1000000 in
theorem indexFunc_other (pk wk g n c q : Nat) (A : Option Addr) (D : Option Addr) (N dc B : Nat) (Rs : List (List (Int × Int))) (w : World) (h1 : w.cell? ⟨pk, 1, none⟩ = some (.slice A n c)) (h2 : w.cell? ⟨wk, 0, none⟩ = some (.pointer (some ⟨g, 0, none⟩))) (h3 : w.cell? ⟨g, 2, none⟩ = some (.int .i64 (q : Int)))
    (l1 : pk < w.heap.size) (l2 : wk < w.heap.size) (l3 : g < w.heap.size) (hq : q ≤ n) (hn : n ≤ 10) (hx : Bd w B D N Rs) (hB : B ≤ w.heap.size) (hN : N ≤ 1099511627776) (hLs : Hid (∀ L ∈ Rs, L.length ≤ 1099511627776)) (r : Bool) (HR : Hid (Rs.any (fun L => !decide (L.length = n - q + 1)) = r)) :
    Calls Try.prog 111 #[.slice D N dc, .func (.func 75) #[] #[.pointer (some ⟨pk, 0, none⟩), .pointer (some ⟨wk, 0, none⟩)]] w fun e w' => (∃ k : Int, e = .returned (.int .i64 k) ∧ decide (0 ≤ k) = r) ∧ Below w.heap.size w w' := by
  have HL := Lib.hid hx.len
  go_enter Try.func111, Try.ntmps111
  go_wp2
  go_loopw [5, 8] (fun _ i wr => ∃ k : Nat, k ≤ N ∧ i = .int .i64 k ∧ Hid ((Rs.take k).any (fun L => !decide (L.length = n - q + 1)) = false) ∧ Below w.heap.size w wr) (fun _ i _ => N - (intOf i).toNat)
  case atStart => exact ⟨0, Nat.zero_le _, rfl, Lib.hid rfl, Below.refl _ _⟩
  case round =>
    obtain ⟨k, hk, rfl, hno, hb⟩ := hrel
    have hxr := hx.below' hb hB
    by_cases hlt : k < N
    · obtain ⟨ad, A', c', m, L, rfl, _, c1, hL, hLm, hmc, _⟩ := hxr.at_ hlt
      have hk2 : k < Rs.length := by rw [HL.out]; omega
      have hm40 : m ≤ 1099511627776 := by rw [← hLm.out]; exact hLs.out L (List.mem_of_getElem? hL.out)
      have hcall := fOther pk wk g n c m c' q A A' wr ((hb.cell l1).trans h1) ((hb.cell l2).trans h2) ((hb.cell l3).trans h3) hq hn hm40
      cases hs : (!decide (m = n - q + 1))
      · have HS : Hid ((Rs.take (k + 1)).any (fun L => !decide (L.length = n - q + 1)) = false) := Lib.hid (by
          rw [take_snoc hL.out, List.any_append, hno.out]
          simp only [List.any_cons, List.any_nil, Bool.or_false, Bool.false_or]
          rw [hLm.out, hs])
        rw [hs] at hcall
        clear hs
        go_wp2_with fail
        refine hcall.mono ?_
        rintro e w1 ⟨rfl, hb1⟩
        have hb2 := hb.trans (hb1.mono hb.size)
        clear hb hb1 hcall
        go_wp2
        go_roundw
        case rel => exact ⟨k + 1, by omega, by go_num, HS, hb2⟩
        case measure => simp [intOf]; omega
      · have HS : Hid (r = true) := Lib.hid (by
          rw [← HR.out]
          exact List.any_eq_true.2 ⟨_, List.mem_of_getElem? hL.out, by rw [hLm.out]; exact hs⟩)
        rw [hs] at hcall
        clear hs
        go_wp2_with fail
        refine hcall.mono ?_
        rintro e w1 ⟨rfl, hb1⟩
        have hb2 := hb.trans (hb1.mono hb.size)
        clear hb hb1 hcall
        go_wp2
        go_ret
        exact ⟨⟨k, rfl, by rw [HS.out]; simp⟩, hb2⟩
    · have HX : Hid (r = false) := Lib.hid (by rw [← HR.out]; have := hno.out; rw [List.take_of_length_le (by rw [HL.out]; omega)] at this; exact this)
      go_wp2
      go_ret
      exact ⟨⟨-1, rfl, by rw [HX.out]; simp⟩, hb⟩
set_option maxHeartbeats 400000 in
theorem containsFunc_other (pk wk g n c q : Nat) (A : Option Addr) (D : Option Addr) (N dc B : Nat) (Rs : List (List (Int × Int))) (w : World) (h1 : w.cell? ⟨pk, 1, none⟩ = some (.slice A n c)) (h2 : w.cell? ⟨wk, 0, none⟩ = some (.pointer (some ⟨g, 0, none⟩))) (h3 : w.cell? ⟨g, 2, none⟩ = some (.int .i64 (q : Int)))
    (l1 : pk < w.heap.size) (l2 : wk < w.heap.size) (l3 : g < w.heap.size) (hq : q ≤ n) (hn : n ≤ 10) (hx : Bd w B D N Rs) (hB : B ≤ w.heap.size) (hN : N ≤ 1099511627776) (hLs : Hid (∀ L ∈ Rs, L.length ≤ 1099511627776)) (r : Bool) (HR : Hid (Rs.any (fun L => !decide (L.length = n - q + 1)) = r)) :
    Calls Try.prog 76 #[.slice D N dc, .func (.func 75) #[] #[.pointer (some ⟨pk, 0, none⟩), .pointer (some ⟨wk, 0, none⟩)]] w (RetB w r) := by
  go_enter Try.func76, Try.ntmps76
  go_wp2_with fail
  refine (indexFunc_other pk wk g n c q A D N dc B Rs _ h1 h2 h3 l1 l2 l3 hq hn hx hB hN hLs r HR).mono ?_
  rintro e w' ⟨⟨k, rfl, hk⟩, hb⟩
  have HK := Lib.hid hk
  clear hk
  go_wp2
  go_ret
  exact ⟨ret_b HK.out, hb⟩

/-- A pair with a number out of range. -/
def strayN (x : Int × Int) : Bool := outB (-1) 9000 x.1 || outB (-1) 9000 x.2
set_option maxRecDepth 100000 in
set_option maxHeartbeats 1000000 in
theorem fStrayN (x y : Int) (w : World) (r : Bool) (HR : Hid (strayN (x, y) = r)) :
    Calls Try.prog 78 #[.agg #[.int .i64 x, .int .i64 y]] w (RetB w r) := by
  have hbk := Bk.new w 76 #[.int .i64 x, .int .i64 y]
  have hb1 := (Below.refl w.heap.size w).alloc (Nat.le_refl _) (.cells #[.int .i64 x, .int .i64 y] 76)
  have hri : Ri (w.alloc (.cells #[.int .i64 x, .int .i64 y] 76)) (w.alloc (.cells #[.int .i64 x, .int .i64 y] 76)).heap.size (some ⟨w.heap.size, 0, none⟩) 2 [x, y] := by
    refine ⟨rfl, fun _ => ⟨_, rfl, by simp, fun j hj => ?_⟩⟩
    match j, hj with
    | 0, _ => exact (hbk.cell 0).trans rfl
    | 1, _ => exact (hbk.cell 1).trans rfl
  have HR2 : Hid ([x, y].any (outB (-1) 9000) = r) := Lib.hid (by rw [← HR.out]; simp [strayN])
  go_enter Try.func78, Try.ntmps78
  go_wp2_with fail
  refine (fWithin _ _ _ _ _ _ _ hri (by omega) _ HR2).mono ?_
  rintro e w1 ⟨rfl, hb, hs⟩
  clear hs
  go_wp2
  go_ret
  exact ⟨by simp, hb1.trans (hb.mono (by simp))⟩
set_option maxRecDepth 100000 in
set_option maxHeartbeats 1000000 in
theorem indexFunc_strayN (A : Option Addr) (n c B : Nat) (ps : List (Int × Int)) (w : World) (hx : Rp w B A n ps) (hB : B ≤ w.heap.size) (hn : n ≤ 1099511627776) (r : Bool) (HR : Hid (ps.any strayN = r)) :
    Calls Try.prog 112 #[.slice A n c, .func (.func 78) #[] #[]] w fun e w' => (∃ k : Int, e = .returned (.int .i64 k) ∧ decide (0 ≤ k) = r) ∧ Below w.heap.size w w' := by
  have HL := Lib.hid hx.len
  go_enter Try.func112, Try.ntmps112
  go_wp2
  go_loopw [5, 8] (fun _ i wr => ∃ k : Nat, k ≤ n ∧ i = .int .i64 k ∧ Hid ((ps.take k).any strayN = false) ∧ Below w.heap.size w wr) (fun _ i _ => n - (intOf i).toNat)
  case atStart => exact ⟨0, Nat.zero_le _, rfl, Lib.hid rfl, Below.refl _ _⟩
  case round =>
    obtain ⟨k, hk, rfl, hno, hb⟩ := hrel
    have hxr := hx.below' hb hB
    by_cases hlt : k < n
    · obtain ⟨ad, rfl, _, c1, c2⟩ := hxr.at2 hlt
      obtain ⟨x, HX⟩ : ∃ x, Hid (plc ps k = x) := ⟨_, Lib.hid rfl⟩
      obtain ⟨y, HY⟩ : ∃ y, Hid (too ps k = y) := ⟨_, Lib.hid rfl⟩
      rw [HX.out] at c1
      rw [HY.out] at c2
      cases hs : strayN (x, y)
      · have HS : Hid ((ps.take (k + 1)).any strayN = false) := Lib.hid (by
          have hk2 : k < ps.length := by rw [HL.out]; omega
          rw [take_snoc (List.getElem?_eq_getElem hk2), List.any_append, hno.out]
          have e : ps[k] = (x, y) := by
            have := plc_some (List.getElem?_eq_getElem hk2)
            rw [HX.out, HY.out] at this
            exact Prod.ext this.1.symm this.2.symm
          simp [e, hs])
        have HR1 := Lib.hid hs
        clear hs
        go_wp2_with fail
        refine (fStrayN x y _ _ HR1).mono ?_
        rintro e w1 ⟨rfl, hb1⟩
        have hb2 := hb.trans (hb1.mono hb.size)
        clear hb hb1
        go_wp2
        go_roundw
        case rel => exact ⟨k + 1, by omega, by go_num, HS, hb2⟩
        case measure => simp [intOf]; omega
      · have HS : Hid (r = true) := Lib.hid (by
          have hk2 : k < ps.length := by rw [HL.out]; omega
          rw [← HR.out]
          have e : ps[k] = (x, y) := by
            have := plc_some (List.getElem?_eq_getElem hk2)
            rw [HX.out, HY.out] at this
            exact Prod.ext this.1.symm this.2.symm
          exact List.any_eq_true.2 ⟨_, List.getElem_mem hk2, by rw [e]; exact hs⟩)
        have HR1 := Lib.hid hs
        clear hs
        go_wp2_with fail
        refine (fStrayN x y _ _ HR1).mono ?_
        rintro e w1 ⟨rfl, hb1⟩
        have hb2 := hb.trans (hb1.mono hb.size)
        clear hb hb1
        go_wp2
        go_ret
        exact ⟨⟨k, rfl, by rw [HS.out]; simp⟩, hb2⟩
    · have HX : Hid (r = false) := Lib.hid (by rw [← HR.out]; have := hno.out; rw [List.take_of_length_le (by rw [HL.out]; omega)] at this; exact this)
      go_wp2
      go_ret
      exact ⟨⟨-1, rfl, by rw [HX.out]; simp⟩, hb⟩

set_option maxHeartbeats 400000 in
theorem containsFunc_strayN (A : Option Addr) (n c B : Nat) (ps : List (Int × Int)) (w : World) (hx : Rp w B A n ps) (hB : B ≤ w.heap.size) (hn : n ≤ 1099511627776) (r : Bool) (HR : Hid (ps.any strayN = r)) :
    Calls Try.prog 77 #[.slice A n c, .func (.func 78) #[] #[]] w (RetB w r) := by
  go_enter Try.func77, Try.ntmps77
  go_wp2_with fail
  refine (indexFunc_strayN _ _ c _ _ _ hx hB hn _ HR).mono ?_
  rintro e w' ⟨⟨k, rfl, hk⟩, hb⟩
  have HK := Lib.hid hk
  clear hk
  go_wp2
  go_ret
  exact ⟨ret_b HK.out, hb⟩

set_option maxRecDepth 100000 in
set_option maxHeartbeats 1000000 in
theorem fGiven0 (tk : Nat) (D : Option Addr) (N dc B R : Nat) (Rs : List (List (Int × Int))) (w : World) (h1 : w.cell? ⟨tk, 0, none⟩ = some (.slice D N dc)) (l1 : tk < w.heap.size) (hx : Bd w B D N Rs) (hB : B ≤ w.heap.size) (x y : Nat) (hxN : x < N) (HLs : Hid (∀ L ∈ Rs, L.length = R)) (hy : y < R) (_hN : N ≤ 1000) (_hR : R ≤ 1000) :
    Calls Try.prog 79 #[.agg #[.int .i64 (x : Int), .int .i64 (y : Int), .int .i64 0], .pointer (some ⟨tk, 0, none⟩)] w (RetI w (gvE Rs x y 0)) := by
  have hb1 := (Below.refl _ w).alloc (Nat.le_refl _) (.cells #[.int .i64 (x : Int), .int .i64 (y : Int), .int .i64 0] 107)
  have hbk := Bk.new w 107 #[.int .i64 (x : Int), .int .i64 (y : Int), .int .i64 0]
  have hc0 := hbk.cell 0
  have hc1 := hbk.cell 1
  have hc2 := hbk.cell 2
  have d1 : (w.alloc (.cells #[.int .i64 (x : Int), .int .i64 (y : Int), .int .i64 0] 107)).cell? ⟨tk, 0, none⟩ = some (.slice D N dc) := (hb1.cell l1).trans h1
  have hx1 := hx.below' hb1 hB
  obtain ⟨ad, A', c', m, L, rfl, _, r1, hL, hLm, hmc, hrp⟩ := hx1.at_ hxN
  obtain rfl : R = m := by rw [← hLm.out]; exact (HLs.out L (List.mem_of_getElem? hL.out)).symm
  obtain ⟨ad2, rfl, _, v1, v2⟩ := hrp.at2 hy
  have HG : Hid (gvE Rs x y 0 = plc L y) := Lib.hid (by unfold gvE; rw [if_pos rfl, hL.out]; rfl)
  obtain ⟨v, HV⟩ : ∃ v, Hid (plc L y = v) := ⟨_, Lib.hid rfl⟩
  rw [HV.out] at v1 HG
  clear hbk
  go_enter Try.func79, Try.ntmps79
  go_wp2
  go_quiet (fail)
  go_wp2
  go_ret
  exact ⟨ret_i HG.out.symm, below_drewN hb1 _⟩
set_option maxRecDepth 100000 in
set_option maxHeartbeats 1000000 in
theorem fGiven1 (tk : Nat) (D : Option Addr) (N dc B R : Nat) (Rs : List (List (Int × Int))) (w : World) (h1 : w.cell? ⟨tk, 0, none⟩ = some (.slice D N dc)) (l1 : tk < w.heap.size) (hx : Bd w B D N Rs) (hB : B ≤ w.heap.size) (x y : Nat) (hxN : x < N) (HLs : Hid (∀ L ∈ Rs, L.length = R)) (hy : y < R) (_hN : N ≤ 1000) (_hR : R ≤ 1000) :
    Calls Try.prog 79 #[.agg #[.int .i64 (x : Int), .int .i64 (y : Int), .int .i64 1], .pointer (some ⟨tk, 0, none⟩)] w (RetI w (gvE Rs x y 1)) := by
  have hb1 := (Below.refl _ w).alloc (Nat.le_refl _) (.cells #[.int .i64 (x : Int), .int .i64 (y : Int), .int .i64 1] 107)
  have hbk := Bk.new w 107 #[.int .i64 (x : Int), .int .i64 (y : Int), .int .i64 1]
  have hc0 := hbk.cell 0
  have hc1 := hbk.cell 1
  have hc2 := hbk.cell 2
  have d1 : (w.alloc (.cells #[.int .i64 (x : Int), .int .i64 (y : Int), .int .i64 1] 107)).cell? ⟨tk, 0, none⟩ = some (.slice D N dc) := (hb1.cell l1).trans h1
  have hx1 := hx.below' hb1 hB
  obtain ⟨ad, A', c', m, L, rfl, _, r1, hL, hLm, hmc, hrp⟩ := hx1.at_ hxN
  obtain rfl : R = m := by rw [← hLm.out]; exact (HLs.out L (List.mem_of_getElem? hL.out)).symm
  obtain ⟨ad2, rfl, _, v1, v2⟩ := hrp.at2 hy
  have HG : Hid (gvE Rs x y 1 = too L y) := Lib.hid (by unfold gvE; rw [if_neg (by omega), hL.out]; rfl)
  obtain ⟨v, HV⟩ : ∃ v, Hid (too L y = v) := ⟨_, Lib.hid rfl⟩
  rw [HV.out] at v2 HG
  clear hbk
  go_enter Try.func79, Try.ntmps79
  go_wp2
  go_quiet (fail)
  go_wp2
  go_ret
  exact ⟨ret_i HG.out.symm, below_drewN hb1 _⟩
theorem fGiven (tk : Nat) (D : Option Addr) (N dc B R : Nat) (Rs : List (List (Int × Int))) (w : World) (h1 : w.cell? ⟨tk, 0, none⟩ = some (.slice D N dc)) (l1 : tk < w.heap.size) (hx : Bd w B D N Rs) (hB : B ≤ w.heap.size) (x y e : Nat) (hxN : x < N) (HLs : Hid (∀ L ∈ Rs, L.length = R)) (hy : y < R) (he : e < 2) (hN : N ≤ 1000) (hR : R ≤ 1000) :
    Calls Try.prog 79 #[.agg #[.int .i64 (x : Int), .int .i64 (y : Int), .int .i64 (e : Int)], .pointer (some ⟨tk, 0, none⟩)] w (RetI w (gvE Rs x y e)) := by
  match e, he with
  | 0, _ => exact fGiven0 tk D N dc B R Rs w h1 l1 hx hB x y hxN HLs hy hN hR
  | 1, _ => exact fGiven1 tk D N dc B R Rs w h1 l1 hx hB x y hxN HLs hy hN hR
end Go.Proofs.Ytaekjnjignlmoaa
