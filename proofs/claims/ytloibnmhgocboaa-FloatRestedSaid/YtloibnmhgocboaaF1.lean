/-
  The program: Fewest, Heights, CheckHeights, greedy, Greedy.
-/
import Derived.Test.YtloibnmhgocboaaHt
import Derived.Test.YtloibnmhgocboaaPQ
import Derived.Test.YtloibnmhgocboaaR5
import Derived.Laws.CopyOwn
namespace Go.Proofs.Ytloibnmhgocboaa
open Go.RowKit Go.Shelf

/-- The condition of 'open', of one amount. -/
theorem open_one (cs : List Int) (a : Int) : (if checkCoins cs = 0 then (if [a].any (outB 0 300) then (3 : Int) else 0) else checkCoins cs) = amountE cs a := by
  unfold amountE
  by_cases h : checkCoins cs = 0
  · rw [if_pos h, if_pos h]
    by_cases h2 : a < 0 ∨ 300 < a
    · rw [if_pos h2, if_pos (by simpa [outB] using h2)]
    · rw [if_neg h2, if_neg (by simpa [outB] using h2)]
  · rw [if_neg h, if_neg h]
theorem one_in {a : Int} (h0 : 0 ≤ a) (h1 : a ≤ 300) : [a].any (outB 0 300) = false := any_out.2 fun x hx => by simp at hx; omega
section
variable (A : Option Addr) (n c : Nat) (cs : List Int) (a : Int) (w : World) (hx : Ri w w.heap.size A n cs) (hn : n ≤ 1048576) (hc : n ≤ c)
include hx hn hc
/-- 'open' with one amount, its list made ahead of the call. -/
theorem fOpen1_err (q : Int) (HQ : Hid (amountE cs a = q)) (hq : q ≠ 0) : Calls Try.prog 61 #[.slice A n c, .slice (some ⟨w.heap.size, 0, none⟩) 1 1] (w.alloc (.cells #[.int .i64 a] 2)) fun e w' => e = .returned (.tuple #[.pointer none, .int .i64 q]) ∧ Below w.heap.size w w' := by
  have hxa : Ri (w.alloc (.cells #[.int .i64 a] 2)) (w.alloc (.cells #[.int .i64 a] 2)).heap.size A n cs := (hx.alloc (Nat.le_refl _) _).more (by simp)
  refine (fOpen_err _ _ _ cs _ _ _ [a] _ hxa (Oi.lit1 w a).ri hn (by omega) hc q (Lib.hid (by rw [open_one]; exact HQ.out)) hq).mono ?_
  rintro e w1 ⟨rfl, hb⟩
  exact ⟨rfl, ((Below.refl _ w).alloc (Nat.le_refl _) _).trans (hb.mono (by simp))⟩
omit hn in
theorem fOpen1_ok (HQ : Hid (amountE cs a = 0)) : Calls Try.prog 61 #[.slice A n c, .slice (some ⟨w.heap.size, 0, none⟩) 1 1] (w.alloc (.cells #[.int .i64 a] 2)) fun e w' => ∃ g m : Nat, e = .returned (.tuple #[.pointer (some ⟨g, 0, none⟩), .int .i64 0]) ∧ Till w' g m 0 A n c (stockN n) (fun _ => none) ∧ w.heap.size ≤ g ∧ w.heap.size ≤ m ∧ Below w.heap.size w w' := by
  have hxa : Ri (w.alloc (.cells #[.int .i64 a] 2)) (w.alloc (.cells #[.int .i64 a] 2)).heap.size A n cs := (hx.alloc (Nat.le_refl _) _).more (by simp)
  obtain ⟨hg, h0, h1⟩ := amountE_ok.1 HQ.out
  refine (fOpen_ok _ _ _ cs _ _ _ [a] _ hxa (Oi.lit1 w a).ri (by omega) hc (Lib.hid hg) (Lib.hid (one_in h0 h1))).mono ?_
  rintro e w1 ⟨g, m, rfl, ht, hg1, hm1, hb⟩
  simp only [World.size_alloc] at hg1 hm1
  exact ⟨g, m, rfl, ht, by omega, by omega, ((Below.refl _ w).alloc (Nat.le_refl _) _).trans (hb.mono (by simp))⟩
set_option maxHeartbeats 1000000 in
theorem fFewestT (v r : Int) (HR : Hid (fewestS cs a = (v, r))) : Calls Try.prog 24 #[.slice A n c, .int .i64 a] w (RetII w v r) := by
  obtain ⟨q, HQ⟩ : ∃ q, Hid (amountE cs a = q) := ⟨_, Lib.hid rfl⟩
  have HL := Lib.hid hx.len
  by_cases h0 : q = 0
  · subst h0
    obtain ⟨hg, ha0, ha1⟩ := amountE_ok.1 HQ.out
    have HG := Lib.hid hg
    obtain ⟨N, rfl⟩ : ∃ N : Nat, a = N := ⟨a.toNat, by omega⟩
    have hN : N ≤ 300 := by omega
    have HE : Hid ((if few cs N < 0 then ((0 : Int), (5 : Int)) else (few cs N, 0)) = (v, r)) := Lib.hid (by
      have e := HR.out
      unfold fewestS at e
      rwa [if_pos HQ.out] at e)
    have HFB := Lib.hid (few_le hg.pos N)
    clear hg
    go_enter Try.func24, Try.ntmps24
    go_wp2_with fail
    refine (fOpen1_ok A n c cs (N : Int) w hx hc HQ).mono ?_
    rintro e w1 ⟨g, m, rfl, ht, hg1, hm1, hb1⟩
    have hx1 := hx.next hb1 (Nat.le_refl _) hb1.size
    go_wp2_with fail
    refine (dHeights g m 0 A n c (stockN n) cs N hN _ HG w1 ht hx1).mono ?_
    rintro e w2 ⟨A', n', c', rfl, ho, hb2⟩
    have hl := ho.len
    rw [heightsL_len] at hl
    obtain ⟨ad, y, rfl, _, cy, hyk, _⟩ := ho.ri.at_ (k := N) (by omega)
    have HY : Hid (highOf (few cs N) = y) := Lib.hid (by rw [← nth_heightsL cs (Nat.le_refl N)]; exact nth_some hyk.out)
    have hb3 := hb1.trans (hb2.mono hb1.size)
    clear hb1 hb2 ho
    by_cases hy : y = 1000
    · have hyb : (y == 1000) = true := by simp [hy]
      have HV : Hid (0 = v ∧ 5 = r) := Lib.hid (by
        have e := HE.out
        have h1 := HY.out
        have h2 := HFB.out
        unfold highOf at h1
        rw [if_pos (by split at h1 <;> omega)] at e
        cases e
        exact ⟨rfl, rfl⟩)
      clear hy
      go_wp2
      go_ret2
      exact ⟨ret_ii HV.out.1 HV.out.2, hb3⟩
    · have hyb : (y == 1000) = false := by simp [hy]
      have HV : Hid (y = v ∧ 0 = r) := Lib.hid (by
        have e := HE.out
        have h1 := HY.out
        unfold highOf at h1
        by_cases h3 : few cs N < 0
        · rw [if_pos h3] at h1; exact absurd h1.symm hy
        · rw [if_neg h3] at h1
          rw [if_neg h3, h1] at e
          cases e
          exact ⟨rfl, rfl⟩)
      clear hy
      go_wp2
      go_ret2
      exact ⟨ret_ii HV.out.1 HV.out.2, hb3⟩
  · have HE : Hid (0 = v ∧ q = r) := Lib.hid (by
      have e := HR.out
      unfold fewestS at e
      rw [if_neg (by rw [HQ.out]; exact h0), HQ.out] at e
      cases e
      exact ⟨rfl, rfl⟩)
    have hq := ne0 h0
    go_enter Try.func24, Try.ntmps24
    go_wp2_with fail
    refine (fOpen1_err A n c cs a w hx hn hc q HQ h0).mono ?_
    rintro e w1 ⟨rfl, hb1⟩
    go_wp2
    go_ret2
    exact ⟨ret_ii HE.out.1 HE.out.2, hb1⟩
end

theorem zeros_set {n j : Nat} : (List.replicate n (0 : Int)).set j 0 = List.replicate n 0 := List.ext_getElem? fun i => by
  rw [List.getElem?_set, List.getElem?_replicate]
  simp only [List.length_replicate]
  split
  · rename_i h
    subst h
    split <;> simp_all
  · rfl
theorem Oi.zeros {base n c g B : Nat} {w0 : World} (hB : B ≤ g) : ∀ (m o : Nat) (w : World), Oi w base (some ⟨g, 0, none⟩) n c (List.replicate n 0) → Below B w0 w → Oi (w.setCells g o (List.replicate m (.int .i64 0))) base (some ⟨g, 0, none⟩) n c (List.replicate n 0) ∧ Below B w0 (w.setCells g o (List.replicate m (.int .i64 0)))
  | 0, _, _, h, hb => ⟨h, hb⟩
  | m + 1, o, w, h, hb => by
    have h1 := h.put_ o 0
    rw [zeros_set] at h1
    exact Oi.zeros hB m (o + 1) _ h1 (hb.setCell hB _)
theorem zero_int (w : World) : (zeroValue 2).run Try.prog w = .ok (.int .i64 0) w := by kernel_rfl
/-- 'clear' of a row of zeros of the call's own. -/
theorem clear_zeros {base n c g B : Nat} {w0 w : World} (hB : B ≤ g) (hn : 0 < n) (ho : Oi w base (some ⟨g, 0, none⟩) n c (List.replicate n 0)) (hb : Below B w0 w) (ty : TypeId) :
    ∃ w2, (Builtin.clear_ #[22] ty #[.slice (some ⟨g, 0, none⟩) n n]).run Try.prog w = .ok (.tuple #[]) w2 ∧ Oi w2 base (some ⟨g, 0, none⟩) n c (List.replicate n 0) ∧ Below B w0 w2 := by
  refine ⟨_, Lib.run_clear_slice (P := Try.prog) w 22 2 ty (.int .i64 0) under_ints zero_int rfl rfl g 0 n n hn (fun j hj => by rw [Nat.zero_add, ho.cell hj]; rfl) (fun j hj => by rw [Nat.zero_add]; exact ho.frozen j), Oi.zeros hB n 0 w ho hb⟩
theorem clear_op {base n c g B : Nat} {w0 w : World} {ops : Array Oper} {rest : List Oper} {o : Oper} {a : Act} {Q : Exit → Act → World → Prop} (hg : o.guard = none) (s : Operand)
    (hop : o.op = .call { callee := .builtin .clear, args := #[s], argTypes := #[22] }) (hs : a.eval s = .slice (some ⟨g, 0, none⟩) n n) (hB : B ≤ g) (hn : 0 < n) (ho : Oi w base (some ⟨g, 0, none⟩) n c (List.replicate n 0)) (hb : Below B w0 w)
    (hK : ∀ w2, Oi w2 base (some ⟨g, 0, none⟩) n c (List.replicate n 0) → Below B w0 w2 → wpList Try.prog ops Q rest (a.put o.dst (.tuple #[])) w2) : wpList Try.prog ops Q (o :: rest) a w := by
  refine wpList_plain hg fun K hK' => ?_
  obtain ⟨w2, hrun, h1, h2⟩ := clear_zeros hB hn ho hb o.type
  unfold Oper.wp
  simp [execOp, hop, resolve, invoke, builtin, hs, hrun, Result.andThen]
  exact hK' _ _ (hK w2 h1 h2)
set_option maxRecDepth 100000 in
set_option maxHeartbeats 2000000 in
theorem dGreedy (g m N : Nat) (A : Option Addr) (n c : Nat) (st cs : List Int) (a : Int) (f : Int × Int → Option Int) (HG : Hid (Good cs)) (ha0 : 0 ≤ a) (ha1 : a ≤ 300) (w : World) (ht : Till w g m N A n c st f) (hx : Ri w w.heap.size A n cs) :
    Calls Try.prog 67 #[.pointer (some ⟨g, 0, none⟩), .int .i64 a] w fun e w' => ∃ (A' : Option Addr) (c' : Nat), e = .returned (.tuple #[.slice A' n c', .int .i64 (greedyL cs a).2]) ∧ Oi w' w.heap.size A' n c' (greedyL cs a).1 ∧ Below w.heap.size w w' := by
  have kg := ht.bk
  have hgl := kg.lt
  clear ht
  have HL := Lib.hid hx.len
  have hn1 : 1 ≤ n := by rw [← HL.out]; exact HG.out.lo
  have hn5 : n ≤ 5 := by rw [← HL.out]; exact HG.out.hi
  have HC1 : Hid (∀ c ∈ cs, 1 ≤ c) := Lib.hid HG.out.pos
  have k0 : w.cell? ⟨g, 0, none⟩ = some (.slice A n c) := kg.cell 0
  go_enter Try.func67, Try.ntmps67
  have hi1 : (n : Int) - 1 + 1 = n := by omega
  have hi2 : IntKind.i64.wrap ((n : Int) - 1) = (n : Int) - 1 := IntWalk.i64_in _ (by omega)
  go_wp2_with (first
    | (at_make; go_must (refine make_ints rfl (.tmp 13) (.tmp 13) rfl n _ rfl rfl rfl (by omega) ?_); go_must (intro w1 hr1 hb1; have k1 : w1.cell? ⟨g, 0, none⟩ = some (.slice A n c) := (hb1.cell (p := ⟨g, 0, none⟩) hgl).trans k0))
    | (with_reducible (show wpList _ _ _ (⟨none, Op.call _, _, _, _, _⟩ :: _) _ _); refine clear_op rfl (.tmp 15) rfl rfl (Nat.le_refl _) hn1 hr1 hb1 ?_; intro w2 hr2 hb2; have k2 : w2.cell? ⟨g, 0, none⟩ = some (.slice A n c) := (hb2.cell (p := ⟨g, 0, none⟩) hgl).trans k0))
  go_loopw [1, 7] (fun r i wr => ∃ z : Int, -1 ≤ z ∧ z < n ∧ i = .int .i64 z ∧ r = .int .i64 (gRest cs a (z + 1).toNat) ∧ Oi wr w.heap.size (some ⟨w.heap.size, 0, none⟩) n n (gOut cs a (z + 1).toNat) ∧ Below w.heap.size w wr) (fun _ i _ => (intOf i + 1).toNat)
  case atStart =>
    have e := gRest_end (a := a) HL.out
    refine ⟨(n : Int) - 1, by omega, by omega, by go_num, ?_, ?_, hb2⟩
    · rw [show ((n : Int) - 1 + 1).toNat = n by omega, e.1]
    · rw [show ((n : Int) - 1 + 1).toNat = n by omega, e.2]; exact hr2
  case round =>
    obtain ⟨z, hz0, hz1, rfl, rfl, ho, hb⟩ := hrel
    have hsz := hb.size
    by_cases hge : 0 ≤ z
    · obtain ⟨j, rfl⟩ : ∃ j : Nat, z = j := ⟨z.toNat, by omega⟩
      have hj : j < n := by omega
      rw [show ((j : Int) + 1).toNat = j + 1 by omega] at ho ⊢
      obtain ⟨ad, x, rfl, hadb, hcx0, hxk, _⟩ := hx.at_ hj
      have hx1 := HC1.out x (List.mem_of_getElem? hxk.out)
      have hx50 := (HG.out.all x (List.mem_of_getElem? hxk.out)).2
      have HR1 := Lib.hid (gRest_step (a := a) hxk.out)
      have HR2 := Lib.hid (gOut_step (a := a) hxk.out)
      have HRB := gRest_bd HC1.out ha0 (j + 1)
      obtain ⟨R, HR⟩ : ∃ R, Hid (gRest cs a (j + 1) = R) := ⟨_, Lib.hid rfl⟩
      obtain ⟨G, HGG⟩ : ∃ G, Hid (gOut cs a (j + 1) = G) := ⟨_, Lib.hid rfl⟩
      rw [HR.out] at HRB ⊢
      rw [HGG.out] at ho
      obtain ⟨hR0, hR1⟩ := HRB
      have kr : wr.cell? ⟨g, 0, none⟩ = some (.slice (some ad) n c) := (hb.cell (p := ⟨g, 0, none⟩) hgl).trans k0
      have hcx : wr.cell? (ad.add j) = some (.int .i64 x) := (hb.cell (by rw [addr_block]; exact hadb)).trans hcx0
      have hcell := ho.cell hj
      have hfr := ho.frozen j
      obtain ⟨u, HU⟩ : ∃ u, Hid (R / x = u) := ⟨_, Lib.hid rfl⟩
      obtain ⟨v, HV⟩ : ∃ v, Hid (R % x = v) := ⟨_, Lib.hid rfl⟩
      have hu0 : 0 ≤ u := by rw [← HU.out]; exact Int.ediv_nonneg hR0 (by omega)
      have hu1 : u ≤ R := by rw [← HU.out]; exact Int.ediv_le_self _ hR0
      have hv0 : 0 ≤ v := by rw [← HV.out]; exact Int.emod_nonneg _ (by omega)
      have hv1 : v < x := by rw [← HV.out]; exact Int.emod_lt_of_pos _ (by omega)
      have hq1 : R / x = u := HU.out
      have hq2 : R % x = v := HV.out
      have hq3 : Int.tdiv R x = u := by rw [Int.tdiv_eq_ediv_of_nonneg hR0]; exact hq1
      have hq4 : Int.tmod R x = v := by rw [Int.tmod_eq_emod_of_nonneg hR0]; exact hq2
      have hxz : (x == 0) = false := by simp; omega
      have hw1 : IntKind.i64.wrap u = u := IntWalk.i64_in _ (by omega)
      have hw2 : IntKind.i64.wrap v = v := IntWalk.i64_in _ (by omega)
      have hfar : (wr.setCell ⟨w.heap.size, j, none⟩ (.int .i64 u)).cell? (ad.add j) = some (.int .i64 x) := (World.cell?_setCell_other _ _ _ _ (fun e => by
        have := congrArg Addr.block e
        rw [addr_block] at this
        simp at this
        omega)).trans hcx
      have hfar2 : (wr.setCell ⟨w.heap.size, j, none⟩ (.int .i64 u)).cell? ⟨g, 0, none⟩ = some (.slice (some ad) n c) := (World.cell?_setCell_other _ _ _ _ (fun e => by
        have := congrArg Addr.block e
        simp at this
        omega)).trans kr
      have HNX : Hid (G.set j u = gOut cs a j ∧ v = gRest cs a j) := Lib.hid ⟨by rw [HR2.out, HGG.out, HR.out, HU.out], by rw [HR1.out, HR.out, HV.out]⟩
      have hjj : ((j : Int) - 1 + 1).toNat = j := by omega
      have hw3 : IntKind.i64.wrap ((j : Int) - 1) = (j : Int) - 1 := IntWalk.i64_in _ (by omega)
      go_wp2
      go_roundw
      case rel => exact ⟨(j : Int) - 1, by omega, by omega, by go_num, by rw [hjj, ← HNX.out.2], by rw [hjj, ← HNX.out.1]; exact ho.put_ j u, hb.setCell (Nat.le_refl _) _⟩
      case measure => simp [intOf]
    · have HZ : Hid ((z + 1).toNat = 0) := Lib.hid (by omega)
      rw [HZ.out] at ho ⊢
      rw [(gRest_all cs a).2] at ho
      rw [(gRest_all cs a).1]
      go_wp2
      go_ret2
      exact ⟨_, _, rfl, ho, hb⟩
set_option maxHeartbeats 1000000 in
theorem fGreedyT (A : Option Addr) (n c : Nat) (cs : List Int) (a : Int) (w : World) (hx : Ri w w.heap.size A n cs) (hn : n ≤ 1048576) (hc : n ≤ c) (L : List Int) (s r : Int) (HR : Hid (greedyS cs a = (L, s, r))) : Calls Try.prog 28 #[.slice A n c, .int .i64 a] w (RetLI w L s r) := by
  obtain ⟨q, HQ⟩ : ∃ q, Hid (amountE cs a = q) := ⟨_, Lib.hid rfl⟩
  by_cases h0 : q = 0
  · subst h0
    obtain ⟨hg, ha0, ha1⟩ := amountE_ok.1 HQ.out
    have HG := Lib.hid hg
    have HE : Hid ((greedyL cs a).1 = L ∧ (greedyL cs a).2 = s ∧ 0 = r) := Lib.hid (by
      have e := HR.out
      unfold greedyS at e
      rw [if_pos HQ.out] at e
      cases e
      exact ⟨rfl, rfl, rfl⟩)
    clear hg
    go_enter Try.func28, Try.ntmps28
    go_wp2_with fail
    refine (fOpen1_ok A n c cs a w hx hc HQ).mono ?_
    rintro e w1 ⟨g, m, rfl, ht, hg1, hm1, hb1⟩
    have hx1 := hx.next hb1 (Nat.le_refl _) hb1.size
    go_wp2_with fail
    refine (dGreedy g m 0 A n c (stockN n) cs a _ HG ha0 ha1 w1 ht hx1).mono ?_
    rintro e w2 ⟨A', c', rfl, ho, hb2⟩
    have hb3 := hb1.trans (hb2.mono hb1.size)
    have ho2 := ho.base hb1.size
    go_wp2
    go_ret3
    exact ⟨_, _, _, ret_li HE.out.2.2 HE.out.2.1, by rw [← HE.out.1]; exact ho2, hb3⟩
  · have HE : Hid ([] = L ∧ 0 = s ∧ q = r) := Lib.hid (by
      have e := HR.out
      unfold greedyS at e
      rw [if_neg (by rw [HQ.out]; exact h0), HQ.out] at e
      cases e
      exact ⟨rfl, rfl, rfl⟩)
    have hq := ne0 h0
    go_enter Try.func28, Try.ntmps28
    go_wp2_with fail
    refine (fOpen1_err A n c cs a w hx hn hc q HQ h0).mono ?_
    rintro e w1 ⟨rfl, hb1⟩
    go_wp2
    go_ret3
    exact ⟨none, 0, 0, ret_li HE.out.2.2 HE.out.2.1, by rw [← HE.out.1]; exact Oi.nil_ _ _, hb1⟩
end Go.Proofs.Ytloibnmhgocboaa
