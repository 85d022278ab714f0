/-
  wheel: 'solve'.
  wheel: 'common', 'least'.
-/
import Derived.Test.YtibmpjhffeinoaaGreatMj
namespace Go.Proofs.YtibmpjhffeinoaaGreat
open Go.RowKit Go.Shelf Go.Maps

/-- A table with one column replaced. -/
def repl (T : List (List Int)) (k : Nat) (cs : List Int) : List (List Int) := T.mapIdx fun i r => r.set k (nth cs i)
theorem repl_take {T : List (List Int)} {k i : Nat} {cs r : List Int} (h : T[i]? = some r) : (repl T k cs).take (i + 1) = (repl T k cs).take i ++ [r.set k (nth cs i)] := by
  unfold repl
  rw [List.take_add_one, List.getElem?_mapIdx, h]
  rfl
theorem repl_len (T : List (List Int)) (k : Nat) (cs : List Int) : (repl T k cs).length = T.length := by simp [repl]
theorem repl_mem {T : List (List Int)} {k : Nat} {cs M : List Int} (h : M ∈ repl T k cs) : ∃ r ∈ T, ∃ i, M = r.set k (nth cs i) := by
  unfold repl at h
  rw [List.mem_mapIdx] at h
  obtain ⟨i, hi, e⟩ := h
  exact ⟨_, List.getElem_mem hi, i, e.symm⟩
theorem repl_bnd {T : List (List Int)} {k : Nat} {cs : List Int} (h : BndL T) (hc : ∀ x ∈ cs, -80 ≤ x ∧ x ≤ 80) : BndL (repl T k cs) := fun M hM x hx => by
  obtain ⟨r, hr, i, rfl⟩ := repl_mem hM
  rcases List.mem_or_eq_of_mem_set hx with h1 | h1
  · exact h r hr x h1
  · rw [h1]
    unfold nth
    cases e : cs[i]? with
    | none => simp
    | some y => exact hc y (List.mem_of_getElem? e)
/-- What 'solve' answers. -/
def solL (T : List (List Int)) (m : Nat) (cs : List Int) : List Int := (List.range m).map fun k => det m (repl T k cs)
theorem solL_take (T : List (List Int)) (m : Nat) (cs : List Int) {k : Nat} (hk : k < m) : (solL T m cs).take (k + 1) = (solL T m cs).take k ++ [det m (repl T k cs)] := by
  unfold solL
  rw [List.take_add_one, List.getElem?_map, List.getElem?_range hk]
  rfl
theorem tabL_rows {S : Int} {N : Nat → Nat → Int} {st : List Int} : ∀ L ∈ tabL S N st, L.length = st.length := fun L hL => by
  unfold tabL at hL
  rw [List.mem_map] at hL
  obtain ⟨x, _, rfl⟩ := hL
  simp
theorem tabL_bnd {S : Int} {N : Nat → Nat → Int} {st : List Int} {n : Nat} (hst : ∀ x ∈ st, ∃ k : Nat, x = k ∧ k < n) (hS : 0 ≤ S ∧ S ≤ 20) (hN : ∀ i k, i < n → k < n → 0 ≤ N i k ∧ N i k ≤ 20) : BndL (tabL S N st) := fun L hL x hx => by
  unfold tabL at hL
  rw [List.mem_map] at hL
  obtain ⟨a, ha, rfl⟩ := hL
  rw [List.mem_map] at hx
  obtain ⟨b, hb, rfl⟩ := hx
  obtain ⟨i, rfl, hi⟩ := hst a ha
  obtain ⟨k, rfl, hk⟩ := hst b hb
  have := hN i k hi hk
  unfold tE
  simp only [Int.toNat_natCast]
  split <;> omega
set_option maxRecDepth 100000 in
set_option maxHeartbeats 3200000 in
theorem fSolve (g mb cnt : Nat) (D : DataW Unit) (N : Nat → Nat → Int) (S : Int) (AN AP AQ : Option Addr) (n cN np cP nq cq : Nat) (A AC : Option Addr) (m c cC : Nat) (st cs : List Int) (w : World) (hb : Ben w g mb cnt D N S AN AP AQ n cN np cP nq cq) (hn : n ≤ 4) (hx : Ri w w.heap.size A m st) (hC : Ri w w.heap.size AC m cs) (hm : m ≤ 3) (hst : ∀ x ∈ st, ∃ k : Nat, x = k ∧ k < n) (hS : 0 ≤ S ∧ S ≤ 20) (hN : ∀ i k, i < n → k < n → 0 ≤ N i k ∧ N i k ≤ 20) (hcb : ∀ x ∈ cs, -80 ≤ x ∧ x ≤ 80) :
    Calls Tryz.prog 152 #[.pointer (some ⟨g, 0, none⟩), .slice A m c, .slice AC m cC] w fun e w' => ∃ A' c', e = .returned (.tuple #[.slice A' m c', .int .i64 (det m (tabL S N st))]) ∧ Oi w' w.heap.size A' m c' (solL (tabL S N st) m cs) ∧ Below w.heap.size w w' := by
  have HTB := Lib.hid (fTable g mb cnt D N S AN AP AQ n cN np cP nq cq A m c st w hb hn hx (by omega) hst hS hN)
  have hbnd := tabL_bnd hst hS hN
  have hrow : ∀ L ∈ tabL S N st, L.length = m := fun L hL => (tabL_rows L hL).trans hx.len
  have HTL : Hid ((tabL S N st).length = m) := Lib.hid (by unfold tabL; rw [List.length_map]; exact hx.len)
  generalize tabL S N st = T at *
  have HBD := Lib.hid hbnd
  have HRW := Lib.hid hrow
  have HCB := Lib.hid hcb
  clear hbnd hrow hcb hst hN hb hx
  have h0 : Hid ((solL T m cs).take 0 = []) := Lib.hid (by simp)
  go_enter Tryz.func152, Tryz.ntmps152
  go_wp2_with fail
  refine HTB.out.mono ?_
  rintro e wT ⟨AT, cT, rfl, hRT, hbT⟩
  have hCT := hC.below hbT
  have hmT := hRT.mv
  have hcT := hRT.cap
  have hsT := hbT.size
  clear HTB hRT hC
  obtain ⟨BT, HB⟩ : ∃ BT, Hid (wT.heap.size = BT) := ⟨_, Lib.hid rfl⟩
  rw [HB.out] at hmT hsT
  have hrT : Below BT wT wT := Below.refl _ _
  have hBT : BT ≤ wT.heap.size := by rw [HB.out]; exact Nat.le_refl _
  have HBT := Lib.hid hbT
  have hm3 : m < 4 := by omega
  clear hbT
  go_wp2
  go_loopw [9, 10, 11, 12, 13, 14, 20, 25] (fun t9 _ _ _ _ _ t20 _ wr => ∃ (A9 : Option Addr) (c9 k : Nat), k ≤ m ∧ t20 = .int .i64 (k : Int) ∧ t9 = .slice A9 k c9 ∧ Oi wr BT A9 k c9 ((solL T m cs).take k) ∧ Below BT wT wr) (fun _ _ _ _ _ _ t20 _ _ => m - (intOf t20).toNat)
  case atStart => exact ⟨none, 0, 0, Nat.zero_le _, rfl, rfl, by rw [h0.out]; exact Oi.nil_ _ _, hrT⟩
  case round =>
    clear h0 hrT
    obtain ⟨A9, c9, k, hk, rfl, rfl, hO, hb⟩ := hrel
    have hbs : BT ≤ wr.heap.size := Nat.le_trans hBT hb.size
    by_cases hkm : k < m
    · have hr0 : Hid ((repl T k cs).take 0 = []) := Lib.hid (by simp)
      go_wp2
      obtain ⟨v0, hv0⟩ : ∃ v0, v0 = wr := ⟨_, rfl⟩
      subst hv0
      have hb0 : Below v0.heap.size v0 v0 := Below.refl _ _
      go_loopw [11, 12, 13, 14, 25] (fun t11 _ _ _ t25 wr => ∃ (A7 : Option Addr) (c7 i : Nat), i ≤ m ∧ t25 = .int .i64 (i : Int) ∧ t11 = .slice A7 i c7 ∧ Rw 23 wr v0.heap.size A7 i c7 ((repl T k cs).take i) ∧ Below v0.heap.size v0 wr) (fun _ _ _ _ t25 _ => m - (intOf t25).toNat)
      case atStart => exact ⟨none, 0, 0, Nat.zero_le _, rfl, rfl, by rw [hr0.out]; exact Rw.nil_ _ _ _, hb0⟩
      case round =>
        clear hb0 hr0
        obtain ⟨A7, c7, i, hi, rfl, rfl, hR, hbi⟩ := hrel
        have hvs := hbi.size
        have hbw := hb.trans (hbi.mono hbs)
        have hws : BT ≤ wr.heap.size := Nat.le_trans hbs hvs
        by_cases him : i < m
        · have hmt := hmT.below hbw
          obtain ⟨r, hr⟩ : ∃ r, T[i]? = some r := ⟨_, List.getElem?_eq_getElem (by rw [HTL.out]; exact him)⟩
          have hlen := HRW.out r (List.mem_of_getElem? hr)
          have HMi := Lib.hid (repl_take (k := k) (cs := cs) hr)
          obtain ⟨adT, A2, c2, rfl, _, h2, h2c, hr2⟩ := hmt.2 i r hr
          rw [hlen] at h2 h2c hr2
          have HRi := Lib.hid hr
          clear hr hlen
          have hCr := (hCT.below (hbw.mono hsT))
          obtain ⟨adC, y, rfl, hCb, hcy, _, HY⟩ := hCr.at_ him
          have HYn : Hid (nth cs i = y) := Lib.hid HY.out.symm
          have hr3 := hr2.more hws
          have h0m : 0 < m := by omega
          go_wp2_with fail
          refine (fClone _ _ _ _ _ hr3 h0m (by omega)).mono ?_
          rintro e w2 ⟨gc, cc, rfl, hO2, hb2⟩
          have hgc := (hO2.lt gc rfl).1
          have hcell := hO2.cell hkm
          have hfr := hO2.frozen k
          have hcy2 : w2.cell? (adC.add i) = some (.int .i64 y) := (hb2.cell (by rw [addr_block]; omega)).trans hcy
          have hO3 := hO2.put_ k y
          have hb3 := hb2.setCell (p := ⟨gc, k, none⟩) hgc (.int .i64 y)
          have hb4 := hbi.trans (hb3.mono hvs)
          have hR3 := hR.below hb3
          have hne : ∀ q, A7.map Addr.block = some q → q < wr.heap.size := fun q hq => (hR.lt q hq).2
          have hvs4 := hb4.size
          have hncc : m ≤ cc := by
            rcases hO2.2 with ⟨e, _⟩ | ⟨g', cap, cur, e, _, _, h3, _⟩
            · cases e
            · cases e; exact h3
          rw [HYn.out] at HMi
          clear hR hr3 hr2 h2 hO2 hb2 hb3
          go_upto_region 12 with fail
          generalize w2.setCell ⟨gc, k, none⟩ (.int .i64 y) = w5 at *
          go_wp2_with (at_builtin; refine push_row rowT_i64 rfl (.tmp 39) (.tmp 41) rfl v0.heap.size A7 i c7 ((repl T k cs).take i) rfl (hR3.alloc _) ⟨w5.heap.size, 0, none⟩ 1 (some ⟨gc, 0, none⟩) m cc (r.set k y) rfl (cell_new1 _ _ _) (by omega) (by simp only [World.size_alloc]; omega) (hO3.alloc _).ri hncc (fun _ ad' e' h' => (by cases e'; have q2 := hne gc h'; omega)) ?_; intro g1 cap1 w4 hR4 hg4; have hb5 := (hb4.alloc hvs4 (.cells #[.slice (some ⟨gc, 0, none⟩) m cc] 23)).grown hg4 (by simp only [World.size_alloc]; omega) (fun k hk => (hR3.lt k hk).1); clear hR3)
          rw [← HMi.out] at hR4
          go_roundw
          case rel => exact ⟨some ⟨g1, 0, none⟩, cap1, i + 1, by omega, by go_num, rfl, hR4, hb5⟩
          case measure => simp [intOf]; omega
        · obtain rfl : m = i := by omega
          rw [List.take_of_length_le (by rw [repl_len, HTL.out]; omega)] at hR
          have hrr : ∀ M ∈ repl T k cs, M.length = m := fun M hM => by
            obtain ⟨r, hr, i, rfl⟩ := repl_mem hM
            rw [List.length_set]
            exact HRW.out r hr
          have HD := Lib.hid (fDet m hm A7 c7 (repl T k cs) wr hR.mv hR.cap hrr (repl_bnd HBD.out HCB.out))
          have HK := Lib.hid (solL_take T m cs hkm)
          have hOr := hO.below hbi
          clear hrr hR hO
          go_wp2_with fail
          refine HD.out.mono ?_
          rintro e w2 ⟨rfl, hb2⟩
          have hO2 := hOr.below hb2
          have hb3 := hbw.trans (hb2.mono hws)
          have hws3 : BT ≤ w2.heap.size := Nat.le_trans hws hb2.size
          clear HD hb2 hOr hbw hbi hb
          generalize det m (repl T k cs) = dk at *
          go_wp2_with (at_builtin; refine push_int rfl (.tmp 44) (.tmp 47) rfl BT A9 k c9 ((solL T m cs).take k) rfl (hO2.alloc _) ⟨w2.heap.size, 0, none⟩ 1 dk rfl (cell_new1 _ _ _) (by omega) (by simp only [World.size_alloc]; omega) ?_; intro g1 cap1 w4 hO4 hg4; have hb5 := (hb3.alloc hws3 (.cells #[.int .i64 dk] 2)).grown hg4 (by simp only [World.size_alloc]; omega) (fun k hk => (hO2.lt k hk).1); clear hO2)
          rw [← HK.out] at hO4
          exact ⟨⟨some ⟨g1, 0, none⟩, cap1, k + 1, by omega, by go_num, rfl, hO4, hb5⟩, by simp [intOf]; omega⟩
    · obtain rfl : m = k := by omega
      rw [List.take_of_length_le (by simp [solL])] at hO
      have hmt := hmT.below hb
      have HD := Lib.hid (fDet m hm AT cT T wr (hmt.more hbs) hcT HRW.out HBD.out)
      go_wp2_with fail
      refine HD.out.mono ?_
      rintro e w2 ⟨rfl, hb2⟩
      have hO2 := (hO.below hb2).base hsT
      have hb3 := HBT.out.trans ((hb.trans (hb2.mono hbs)).mono hsT)
      clear HD hb2 hO hb
      go_wp2
      go_ret2
      exact ⟨A9, c9, rfl, hO2, hb3⟩
end Go.Proofs.YtibmpjhffeinoaaGreat

namespace Go.Proofs.YtibmpjhffeinoaaGreat
open Go.RowKit Go.Shelf Go.Maps

theorem size_ratio : (Tryz.prog.info? 39).map (·.size) = some 2 := by kernel_rfl
/-- A fraction is returned. -/
theorem ret_ratio {fn : Func} {R : Ending → World → Prop} {a : Act} {w : World} {p : Tmp} {g : Nat} {x y : Value} (h : fn.results = #[.cell p 39]) (hp : a.tmps.getD p undef = .pointer (some ⟨g, 0, none⟩)) (hb : Bk w g 39 #[x, y]) (hd : a.defers = []) (hR : R (.returned (.agg #[x, y])) w) : bodyPost Tryz.prog fn R .ret a w :=
  bodyPost_ret (results_cell_row h _ _ g _ _ _ _ hp hb Tryz.underlying39 rfl size_ratio) hd hR
set_option maxRecDepth 100000 in
set_option maxHeartbeats 400000 in
theorem fCommonS (a b : Nat) (w : World) (_ha : a ≤ 100000000) (hb : b ≤ 100000000) (ih : 0 < b → Calls Tryz.prog 281 #[.int .i64 (b : Int), .int .i64 ((a % b : Nat) : Int)] w fun e w' => e = .returned (.int .i64 ((Nat.gcd b (a % b) : Nat) : Int)) ∧ w' = w) :
    Calls Tryz.prog 281 #[.int .i64 (a : Int), .int .i64 (b : Int)] w fun e w' => e = .returned (.int .i64 ((Nat.gcd a b : Nat) : Int)) ∧ w' = w := by
  by_cases h0 : b = 0
  · subst h0
    have hg : Hid (Nat.gcd a 0 = a) := Lib.hid (Nat.gcd_zero_right a)
    rw [hg.out]
    go_enter Tryz.func281, Tryz.ntmps281
    go_wp2
    go_ret
    exact ⟨rfl, rfl⟩
  · have hi := Lib.hid (ih (by omega))
    have hg : Hid (Nat.gcd a b = Nat.gcd b (a % b)) := Lib.hid (by rw [Nat.gcd_comm a b, Nat.gcd_rec b a, Nat.gcd_comm])
    rw [hg.out]
    have h1 : ((b : Int) == 0) = false := by simp; omega
    have h2 : (a : Int).tmod (b : Int) = ((a % b : Nat) : Int) := rfl
    clear ih
    go_enter Tryz.func281, Tryz.ntmps281
    go_wp2_with fail
    refine hi.out.mono ?_
    rintro e w2 ⟨rfl, rfl⟩
    go_wp2
    go_ret
    exact ⟨rfl, rfl⟩
theorem fCommon : ∀ (b a : Nat) (w : World), a ≤ 100000000 → b ≤ 100000000 → Calls Tryz.prog 281 #[.int .i64 (a : Int), .int .i64 (b : Int)] w fun e w' => e = .returned (.int .i64 ((Nat.gcd a b : Nat) : Int)) ∧ w' = w := fun b => by
  induction b using Nat.strongRecOn with
  | _ b ih =>
    intro a w ha hb
    exact fCommonS a b w ha hb fun h0 => ih (a % b) (Nat.mod_lt a h0) b w hb (by have := Nat.mod_lt a h0; omega)
set_option maxRecDepth 100000 in
set_option maxHeartbeats 400000 in
theorem fLeast (a b : Nat) (w : World) (ha : a ≤ 100000000) (hb : b ≤ 100000000) (h0 : 0 < b) :
    Calls Tryz.prog 153 #[.int .i64 (a : Int), .int .i64 (b : Int)] w fun e w' => e = .returned (.agg #[.int .i64 ((a / Nat.gcd a b : Nat) : Int), .int .i64 ((b / Nat.gcd a b : Nat) : Int)]) ∧ Below w.heap.size w w' := by
  have hgc := Lib.hid fun w => fCommon b a w ha hb
  have hg0 : 0 < Nat.gcd a b := Nat.gcd_pos_of_pos_right a h0
  have hgb : Nat.gcd a b ≤ b := Nat.gcd_le_right a h0
  obtain ⟨d, HD⟩ : ∃ d, Hid (Nat.gcd a b = d) := ⟨_, Lib.hid rfl⟩
  rw [HD.out] at hgc hg0 hgb ⊢
  obtain ⟨qa, HQa⟩ : ∃ q, Hid (a / d = q) := ⟨_, Lib.hid rfl⟩
  obtain ⟨qb, HQb⟩ : ∃ q, Hid (b / d = q) := ⟨_, Lib.hid rfl⟩
  have hqa : (a : Int) / (d : Int) = (qa : Int) := by rw [← HQa.out]; exact (Int.natCast_ediv a d).symm
  have hqb : (b : Int) / (d : Int) = (qb : Int) := by rw [← HQb.out]; exact (Int.natCast_ediv b d).symm
  have hqa1 : qa ≤ a := by rw [← HQa.out]; exact Nat.div_le_self _ _
  have hqb1 : qb ≤ b := by rw [← HQb.out]; exact Nat.div_le_self _ _
  rw [HQa.out, HQb.out]
  have hwa : IntKind.i64.wrap (qa : Int) = (qa : Int) := by rw [IntKind.wrap_i64]; omega
  have hwb : IntKind.i64.wrap (qb : Int) = (qb : Int) := by rw [IntKind.wrap_i64]; omega
  have hmax : max (a : Int) (-(a : Int)) = (a : Int) := by omega
  have hbl := (Below.refl w.heap.size w).alloc (Nat.le_refl _) (.cells #[.int .i64 0, .int .i64 0] 39)
  have hbk := Bk.new w 39 #[.int .i64 0, .int .i64 0]
  go_enter Tryz.func153, Tryz.ntmps153
  go_wp2_with fail
  refine (hgc.out _).mono ?_
  rintro e w2 ⟨rfl, rfl⟩
  generalize w.alloc (.cells #[.int .i64 0, .int .i64 0] 39) = W at *
  have hd0 : ¬ d = 0 := by omega
  have c0 : W.cell? ⟨w.heap.size, 0, none⟩ = some (.int .i64 0) := hbk.cell 0
  have c1 : W.cell? ⟨w.heap.size, 1, none⟩ = some (.int .i64 0) := hbk.cell 1
  have f0 : W.frozen? ⟨w.heap.size, 0, none⟩ = false := hbk.frozen 0
  have f1 : W.frozen? ⟨w.heap.size, 1, none⟩ = false := hbk.frozen 1
  go_wp2
  refine wp_region_still_tail 7 (by kernel_rfl) (by kernel_rfl) ?_
  simp only [List.take_succ_cons, List.take_zero, List.drop_succ_cons, List.drop_zero]
  change wpStill _ _ W.drew _ _ _
  iterate 7 still_step
  refine wpStill_nil ?_
  have d0 : W.drew.cell? ⟨w.heap.size, 0, none⟩ = some (.int .i64 0) := c0
  have d1 : W.drew.cell? ⟨w.heap.size, 1, none⟩ = some (.int .i64 0) := c1
  go_wp2
  have hbk2 : Bk ((W.setCell ⟨w.heap.size, 0, none⟩ (.int .i64 (qa : Int))).setCell ⟨w.heap.size, 1, none⟩ (.int .i64 (qb : Int))).drew w.heap.size 39 _ := (hbk.set_ 0 (.int .i64 (qa : Int))).set_ 1 (.int .i64 (qb : Int))
  have hb2 := below_drewN ((hbl.setCell (p := ⟨w.heap.size, 0, none⟩) (Nat.le_refl _) (.int .i64 (qa : Int))).setCell (p := ⟨w.heap.size, 1, none⟩) (Nat.le_refl _) (.int .i64 (qb : Int))) 1
  change Below _ _ ((W.setCell ⟨w.heap.size, 0, none⟩ (.int .i64 (qa : Int))).setCell ⟨w.heap.size, 1, none⟩ (.int .i64 (qb : Int))).drew at hb2
  generalize ((W.setCell ⟨w.heap.size, 0, none⟩ (.int .i64 (qa : Int))).setCell ⟨w.heap.size, 1, none⟩ (.int .i64 (qb : Int))).drew = W2 at *
  have hbk3 : Bk W2 w.heap.size 39 #[.int .i64 (qa : Int), .int .i64 (qb : Int)] := hbk2
  exact ret_ratio rfl rfl hbk3 rfl ⟨rfl, hb2⟩
end Go.Proofs.YtibmpjhffeinoaaGreat
