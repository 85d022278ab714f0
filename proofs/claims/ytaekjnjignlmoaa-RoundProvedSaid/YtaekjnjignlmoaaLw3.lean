/-
  The laws' piers and tables. Printed by gen_lw3.py.
-/
import Derived.Test.YtaekjnjignlmoaaLw1
import Derived.Test.YtaekjnjignlmoaaStp
import Derived.Test.YtaekjnjignlmoaaSq
import Derived.Test.YtaekjnjignlmoaaI
import Derived.Test.YtaekjnjignlmoaaBm
namespace Go.Proofs.Ytaekjnjignlmoaa
open Go.RowKit Go.Shelf

theorem under_pier : ∃ fs, Try.prog.underlying 24 = some (.struct fs) := isStruct_of (by kernel_rfl)
theorem results_pier {fn : Func} {p : Tmp} (h : fn.results = #[.cell p 24]) (tmps : Array Value) {w : World} {k : Nat} {b : Int} {A : Option Addr} {n c : Nat} (hp : tmps.getD p undef = .pointer (some ⟨k, 0, none⟩)) (hb : Bk w k 24 #[.int .i64 b, .slice A n c]) :
    (results fn tmps).run Try.prog w = .ok (.agg #[.int .i64 b, .slice A n c]) w := by
  obtain ⟨fs, hu⟩ := under_pier
  have hp' : tmps[p]?.getD undef = .pointer (some ⟨k, 0, none⟩) := by simpa using hp
  have hl : (loadVar 24 ⟨k, 0, none⟩).run Try.prog w = .ok (.agg #[.int .i64 b, .slice A n c]) w := run_loadVar_row w k _ 24 #[.int .i64 b, .slice A n c] (0, 0) _ hb hu rfl (by kernel_rfl)
  simp [results, h, hp', asAddr, hl]
/-- The stops that numbers say. -/
def pairsOf (xs : List Int) (k : Nat) : List (Int × Int) := (List.range k).map fun j => (nth xs (j * 2), nth xs (j * 2 + 1))
theorem pairsOf_succ (xs : List Int) (k : Nat) : pairsOf xs (k + 1) = pairsOf xs k ++ [(nth xs (k * 2), nth xs (k * 2 + 1))] := by unfold pairsOf; rw [List.range_succ, List.map_append]; rfl
theorem pairsOf_len (xs : List Int) (k : Nat) : (pairsOf xs k).length = k := by simp [pairsOf]
/-- What a call that returns a pier comes to. -/
def RetP (w : World) (b : Int) (n : Nat) (ps : List (Int × Int)) (e : Ending) (w' : World) : Prop := ∃ (A : Option Addr) (c : Nat), e = .returned (.agg #[.int .i64 b, .slice A n c]) ∧ Os w' w.heap.size A n c ps ∧ Below w.heap.size w w'

set_option maxRecDepth 100000 in
set_option maxHeartbeats 2000000 in
theorem aPier (b : Int) (X : Option Addr) (xc N : Nat) (xs : List Int) (w : World) (hx : Ri w w.heap.size X (N * 2) xs) (hN : N ≤ 1000) :
    Calls Try.prog 96 #[.int .i64 b, .slice X (N * 2) xc] w (RetP w b N (pairsOf xs N)) := by
  have hmix : Try.prog.follows .mixedOrders = true := by kernel_rfl
  have hb0 : Below w.heap.size w ((w.alloc (.cells #[.int .i64 0, .slice none 0 0] 24)).alloc (.cells #[.int .i64 b, .slice none 0 0] 24)) := ((Below.refl _ w).alloc (Nat.le_refl _) _).alloc (by simp) _
  have k4 := (Bk.new w 24 #[.int .i64 0, .slice none 0 0]).alloc (.cells #[.int .i64 b, .slice none 0 0] 24)
  have k5 := Bk.new (w.alloc (.cells #[.int .i64 0, .slice none 0 0] 24)) 24 #[.int .i64 b, .slice none 0 0]
  simp only [World.size_alloc] at k5
  go_enter Try.func96, Try.ntmps96
  go_wp2
  go_loopw [6] (fun i wr => ∃ (k : Nat) (A : Option Addr) (c : Nat), k ≤ N ∧ i = .int .i64 ((k * 2 : Nat) : Int) ∧ Bk wr w.heap.size 24 #[.int .i64 0, .slice none 0 0] ∧ Bk wr (w.heap.size + 1) 24 #[.int .i64 b, .slice A k c] ∧ Os wr (w.heap.size + 2) A k c (pairsOf xs k) ∧ Below w.heap.size w wr) (fun i _ => N * 2 + 2 - (intOf i).toNat)
  case atStart => exact ⟨0, none, 0, Nat.zero_le _, rfl, k4, k5, Os.nil_ _ _, hb0⟩
  case round =>
    clear hb0 k4 k5
    obtain ⟨k, A, c, hk, rfl, h4, h5, ho, hb⟩ := hrel
    obtain ⟨i, HI⟩ : ∃ i, Hid (k * 2 = i) := ⟨_, Lib.hid rfl⟩
    obtain ⟨M, HM⟩ : ∃ M, Hid (N * 2 = M) := ⟨_, Lib.hid rfl⟩
    rw [HI.out]
    have hxr := hx.below hb
    rw [HM.out] at hxr ⊢
    have hM1 : M ≤ 2000 := by have := HM.out; omega
    have hiM : i ≤ M := by have := HM.out; have := HI.out; omega
    obtain ⟨i1, HI1⟩ : ∃ k, Hid (i + 1 = k) := ⟨_, Lib.hid rfl⟩
    have hw1 : IntKind.i64.wrap ((i : Int) + 1) = (i1 : Int) := by rw [IntWalk.i64_in _ (by omega)]; have := HI1.out; omega
    have hsz2 : w.heap.size + 2 ≤ wr.heap.size := by have := h5.lt; omega
    by_cases hlt : k < N
    · have hi1M : i1 < M := by have := HM.out; have := HI.out; have := HI1.out; omega
      have hilt : i < M := by have := HI1.out; omega
      obtain ⟨i2, HI2⟩ : ∃ k, Hid (i + 2 = k) := ⟨_, Lib.hid rfl⟩
      have hw2 : IntKind.i64.wrap ((i : Int) + 2) = (i2 : Int) := by rw [IntWalk.i64_in _ (by omega)]; have := HI2.out; omega
      obtain ⟨ad, x, rfl, _, cx, hx1, _⟩ := hxr.at_ hilt
      obtain ⟨ad', y, hA, _, cy, hx2, _⟩ := hxr.at_ hi1M
      obtain rfl : ad = ad' := Option.some.inj hA
      have HPS : Hid (pairsOf xs (k + 1) = pairsOf xs k ++ [(x, y)]) := Lib.hid (by
        rw [pairsOf_succ, HI.out, HI1.out, nth_some hx1.out, nth_some hx2.out])
      have c5 : wr.cell? ⟨w.heap.size + 1, 1, none⟩ = some (.slice A k c) := h5.cell 1
      have h5d := h5.drew
      have hod := ho.drew
      have hbn := hod.bk_ne h5d (by decide)
      go_wp2
      refine wp_region_lastL (fun V => V.cell? ⟨w.heap.size + 1, 1, none⟩ = some (.slice A k c) ∧ V.cell? (ad.add i) = some (.int .i64 x) ∧ V.cell? (ad.add i1) = some (.int .i64 y)) hmix rfl (by kernel_rfl) ⟨c5, cx, cy⟩ (fun hS => ?_)
      simp only [List.dropLast_cons_cons, List.dropLast_singleton, List.length_cons, List.length_nil, Nat.reduceAdd]
      refine wpAnyH_take (i := 0) (v := ?_) rfl (by kernel_rfl) (by kernel_rfl) (by kernel_rfl) (fun _ _ _ h => h) (Or.inl ⟨by rfl, ?_⟩) hS ?_
      rotate_left
      · intro w hSw
        (try dsimp only at hSw)
        go_simp
        (try with_reducible rfl)
      try simp (maxSteps := 10000000) only [Act.put, List.setIfInBounds_toArray, List.set_cons_zero, List.set_cons_succ, List.getElem_toArray, List.getElem_cons_zero]
      refine wpAnyH_take (i := 1) (v := ?_) rfl (by kernel_rfl) (by kernel_rfl) (by kernel_rfl) (fun _ _ _ h => h) (Or.inl ⟨by rfl, ?_⟩) hS ?_
      rotate_left
      · intro w hSw
        (try dsimp only at hSw)
        go_simp
        (try with_reducible rfl)
      try simp (maxSteps := 10000000) only [Act.put, List.setIfInBounds_toArray, List.set_cons_zero, List.set_cons_succ, List.getElem_toArray, List.getElem_cons_zero, List.getElem_cons_succ]
      refine wpAnyH_take (i := 2) (v := ?_) rfl (by kernel_rfl) (by kernel_rfl) (by kernel_rfl) (fun _ _ _ h => h) (Or.inl ⟨by rfl, ?_⟩) hS ?_
      rotate_left
      · intro w hSw
        (try dsimp only at hSw)
        go_simp
        (try with_reducible rfl)
      try simp (maxSteps := 10000000) only [Act.put, List.setIfInBounds_toArray, List.set_cons_zero, List.set_cons_succ, List.getElem_toArray, List.getElem_cons_zero, List.getElem_cons_succ]
      refine wpAnyH_take (i := 3) (v := ?_) rfl (by kernel_rfl) (by kernel_rfl) (by kernel_rfl) (fun _ _ _ h => h) (Or.inl ⟨by rfl, ?_⟩) hS ?_
      rotate_left
      · intro w hSw
        (try dsimp only at hSw)
        go_simp
        (try with_reducible rfl)
      try simp (maxSteps := 10000000) only [Act.put, List.setIfInBounds_toArray, List.set_cons_zero, List.set_cons_succ, List.getElem_toArray, List.getElem_cons_zero, List.getElem_cons_succ]
      refine wpAnyH_take (i := 4) (v := ?_) rfl (by kernel_rfl) (by kernel_rfl) (by kernel_rfl) (fun _ _ _ h => h) (Or.inl ⟨by rfl, ?_⟩) hS ?_
      rotate_left
      · intro w hSw
        (try dsimp only at hSw)
        go_simp
        (try with_reducible rfl)
      try simp (maxSteps := 10000000) only [Act.put, List.setIfInBounds_toArray, List.set_cons_zero, List.set_cons_succ, List.getElem_toArray, List.getElem_cons_zero, List.getElem_cons_succ]
      refine wpAnyH_take (i := 5) (v := ?_) rfl (by kernel_rfl) (by kernel_rfl) (by kernel_rfl) (fun _ _ _ h => h) (Or.inl ⟨by rfl, ?_⟩) hS ?_
      rotate_left
      · intro w hSw
        (try dsimp only at hSw)
        go_simp
        (try with_reducible rfl)
      try simp (maxSteps := 10000000) only [Act.put, List.setIfInBounds_toArray, List.set_cons_zero, List.set_cons_succ, List.getElem_toArray, List.getElem_cons_zero, List.getElem_cons_succ]
      refine wpAnyH_take (i := 6) (v := ?_) rfl (by kernel_rfl) (by kernel_rfl) (by kernel_rfl) (fun _ _ _ h => h) (Or.inl ⟨by rfl, ?_⟩) hS ?_
      rotate_left
      · intro w hSw
        (try dsimp only at hSw)
        go_simp
        (try with_reducible rfl)
      try simp (maxSteps := 10000000) only [Act.put, List.setIfInBounds_toArray, List.set_cons_zero, List.set_cons_succ, List.getElem_toArray, List.getElem_cons_zero, List.getElem_cons_succ]
      refine wpAnyH_take (i := 7) (v := ?_) rfl (by kernel_rfl) (by kernel_rfl) (by kernel_rfl) (fun _ _ _ h => h) (Or.inl ⟨by rfl, ?_⟩) hS ?_
      rotate_left
      · intro w hSw
        (try dsimp only at hSw)
        go_simp
        (try with_reducible rfl)
      try simp (maxSteps := 10000000) only [Act.put, List.setIfInBounds_toArray, List.set_cons_zero, List.set_cons_succ, List.getElem_toArray, List.getElem_cons_zero, List.getElem_cons_succ]
      refine wpAnyH_take (i := 8) (v := ?_) rfl (by kernel_rfl) (by kernel_rfl) (by kernel_rfl) (fun _ _ _ h => h) (Or.inl ⟨by rfl, ?_⟩) hS ?_
      rotate_left
      · intro w hSw
        (try dsimp only at hSw)
        go_simp
        (try with_reducible rfl)
      try simp (maxSteps := 10000000) only [Act.put, List.setIfInBounds_toArray, List.set_cons_zero, List.set_cons_succ, List.getElem_toArray, List.getElem_cons_zero, List.getElem_cons_succ]
      refine wpAnyH_take (i := 9) (v := ?_) rfl (by kernel_rfl) (by kernel_rfl) (by kernel_rfl) (fun _ _ _ h => h) (Or.inl ⟨by rfl, ?_⟩) hS ?_
      rotate_left
      · intro w hSw
        (try dsimp only at hSw)
        go_simp
        (try with_reducible rfl)
      try simp (maxSteps := 10000000) only [Act.put, List.setIfInBounds_toArray, List.set_cons_zero, List.set_cons_succ, List.getElem_toArray, List.getElem_cons_zero, List.getElem_cons_succ]
      refine wpAnyH_take (i := 10) (v := ?_) rfl (by kernel_rfl) (by kernel_rfl) (by kernel_rfl) (fun _ _ _ h => h) (Or.inl ⟨by rfl, ?_⟩) hS ?_
      rotate_left
      · intro w hSw
        (try dsimp only at hSw)
        go_simp
        (try with_reducible rfl)
      try simp (maxSteps := 10000000) only [Act.put, List.setIfInBounds_toArray, List.set_cons_zero, List.set_cons_succ, List.getElem_toArray, List.getElem_cons_zero, List.getElem_cons_succ]
      refine wpAnyH_take (i := 11) (v := ?_) rfl (by kernel_rfl) (by kernel_rfl) (by kernel_rfl) (fun _ _ _ h => h) (Or.inl ⟨by rfl, ?_⟩) hS ?_
      rotate_left
      · intro w hSw
        (try dsimp only at hSw)
        go_simp
        (try with_reducible rfl)
      try simp (maxSteps := 10000000) only [Act.put, List.setIfInBounds_toArray, List.set_cons_zero, List.set_cons_succ, List.getElem_toArray, List.getElem_cons_zero, List.getElem_cons_succ]
      refine wpAnyH_ready (rs := [12]) (by kernel_rfl) (by simp) ?_
      refine AllReadyH.cons rfl (fun K hK => ?_) AllReadyH.nil
      go_simp
      refine hK.out _ _ ⟨cell_old _ c5, cell_old _ cx, cell_old _ cy⟩ (fun hS => ?_)
      clear hK K
      try simp (maxSteps := 10000000) only [Act.put, List.setIfInBounds_toArray, List.set_cons_zero, List.set_cons_succ, List.getElem_toArray, List.getElem_cons_zero, List.getElem_cons_succ]
      refine wpAnyH_ready (rs := [13]) (by kernel_rfl) (by simp) ?_
      refine AllReadyH.cons rfl (fun K hK => ?_) AllReadyH.nil
      have hnb := Bk.new wr 67 #[.int .i64 x, .int .i64 y]
      refine step_stop rfl (.tmp 17) (.tmp 28) rfl (w.heap.size + 2) A k c (pairsOf xs k) rfl ((ho.alloc (.cells #[.int .i64 x, .int .i64 y] 67)).drew) ⟨wr.heap.size, 0, none⟩ 1 x y rfl (hnb.cell 0) (hnb.cell 1) (by omega) (by show _ ≤ (wr.alloc _).heap.size; simp; omega) ?_
      intro g3 cap3 w3 ho3 hg3
      have h53 := ((h5.alloc (.cells #[.int .i64 x, .int .i64 y] 67)).drew).grown hg3 ((ho.alloc (.cells #[.int .i64 x, .int .i64 y] 67)).drew.bk_ne ((h5.alloc (.cells #[.int .i64 x, .int .i64 y] 67)).drew) (by decide))
      have h43 := ((h4.alloc (.cells #[.int .i64 x, .int .i64 y] 67)).drew).grown hg3 ((ho.alloc (.cells #[.int .i64 x, .int .i64 y] 67)).drew.bk_ne ((h4.alloc (.cells #[.int .i64 x, .int .i64 y] 67)).drew) (by decide))
      have hAb : ∀ r, A.map Addr.block = some r → w.heap.size ≤ r := fun r e => by have := (ho.lt r e).1; omega
      have hb3 : Below w.heap.size w w3 := (below_drewN (hb.alloc (by omega) (.cells #[.int .i64 x, .int .i64 y] 67)) 1).grown hg3 (by simp; omega) hAb
      have hx3 := hx.below hb3
      rw [HM.out] at hx3
      obtain ⟨ad', x', hA, _, cx3, hx1', _⟩ := hx3.at_ hilt
      obtain rfl : ad = ad' := Option.some.inj hA
      obtain rfl : x = x' := Option.some.inj (hx1.out.symm.trans hx1'.out)
      obtain ⟨ad', y', hA, _, cy3, hx2', _⟩ := hx3.at_ hi1M
      obtain rfl : ad = ad' := Option.some.inj hA
      obtain rfl : y = y' := Option.some.inj (hx2.out.symm.trans hx2'.out)
      refine hK.out _ _ ⟨h53.cell 1, cx3, cy3⟩ (fun hS => ?_)
      clear hK K
      try simp (maxSteps := 10000000) only [Act.put, List.setIfInBounds_toArray, List.set_cons_zero, List.set_cons_succ, List.getElem_toArray, List.getElem_cons_zero, List.getElem_cons_succ]
      refine wpAnyH_take (i := 14) (v := ?_) rfl (by kernel_rfl) (by kernel_rfl) (by kernel_rfl) (fun _ _ _ h => h) (Or.inl ⟨by rfl, ?_⟩) hS ?_
      rotate_left
      · intro w hSw
        (try dsimp only at hSw)
        go_simp
        (try with_reducible rfl)
      try simp (maxSteps := 10000000) only [Act.put, List.setIfInBounds_toArray, List.set_cons_zero, List.set_cons_succ, List.getElem_toArray, List.getElem_cons_zero, List.getElem_cons_succ]
      have c53 := h53.cell 1
      have f53 := h53.frozen 1
      refine wpAnyH_done (by kernel_rfl) ?_ _
      unfold lastQ
      go_simp
      have h54 := h53.set_ 1 (.slice (some ⟨g3, 0, none⟩) (k + 1) cap3)
      have h44 := h43.far (p := ⟨w.heap.size + 1, 1, none⟩) (by simp) (.slice (some ⟨g3, 0, none⟩) (k + 1) cap3)
      have ho4 := ho3.setOther (p := ⟨w.heap.size + 1, 1, none⟩) (ho3.bk_ne h53 (by decide)) (.slice (some ⟨g3, 0, none⟩) (k + 1) cap3)
      have hb4 := hb3.setCell (p := ⟨w.heap.size + 1, 1, none⟩) (by simp) (.slice (some ⟨g3, 0, none⟩) (k + 1) cap3)
      have HKI : Hid ((i2 : Int) = (((k + 1) * 2 : Nat) : Int)) := Lib.hid (by have := HI2.out; have := HI.out; omega)
      clear hS c53 f53 cx3 cy3 cx cy c5
      go_wp2
      go_roundw
      case rel => exact ⟨k + 1, some ⟨g3, 0, none⟩, cap3, by omega, by rw [HKI.out], h44, h54, by rw [HPS.out]; exact ho4, hb4⟩
      case measure => have := HKI.out; have := HI.out; simp [intOf]; omega
    · obtain rfl : k = N := by omega
      have hge : ¬ (i1 : Int) < (M : Int) := by have := HM.out; have := HI.out; have := HI1.out; omega
      have l0 : wr.cell? ⟨w.heap.size + 1, 0, none⟩ = some (.int .i64 b) := h5.cell 0
      have l1 : wr.cell? ⟨w.heap.size + 1, 1, none⟩ = some (.slice A k c) := h5.cell 1
      have f40 := h4.frozen 0
      have f41 := h4.frozen 1
      have c40 := h4.cell 0
      have c41 := h4.cell 1
      have h46 := (h4.set_ 0 (.int .i64 b)).set_ 1 (.slice A k c)
      have ho5 := (ho.setOther (p := ⟨w.heap.size, 0, none⟩) (ho.bk_ne h4 (by decide)) (.int .i64 b)).setOther (p := ⟨w.heap.size, 1, none⟩) (ho.bk_ne h4 (by decide)) (.slice A k c)
      have hb5 := (hb.setCell (p := ⟨w.heap.size, 0, none⟩) (Nat.le_refl _) (.int .i64 b)).setCell (p := ⟨w.heap.size, 1, none⟩) (Nat.le_refl _) (.slice A k c)
      go_wp2
      refine bodyPost_ret (results_pier rfl _ rfl h46) rfl ⟨A, c, rfl, ho5.base (by omega), hb5⟩

def goodPs : List (Int × Int) := [(2, 10), (4, 9), (7, 4), (10, 20)]
def latePs : List (Int × Int) := [(2, 6), (4, 9), (7, 4), (10, 20)]
set_option maxRecDepth 100000 in
set_option maxHeartbeats 1000000 in
theorem aGood (w : World) : Calls Try.prog 52 #[] w (RetP w 5 4 goodPs) := by
  have k0 := (Bk.new w 24 #[.int .i64 0, .slice none 0 0]).alloc (.cells #[.int .i64 2, .int .i64 10, .int .i64 4, .int .i64 9, .int .i64 7, .int .i64 4, .int .i64 10, .int .i64 20] 2)
  have hl := (Oi.lit (w.alloc (.cells #[.int .i64 0, .slice none 0 0] 24)) #[.int .i64 2, .int .i64 10, .int .i64 4, .int .i64 9, .int .i64 7, .int .i64 4, .int .i64 10, .int .i64 20] 8 [2, 10, 4, 9, 7, 4, 10, 20] rfl rfl (by omega)).ri
  have hb0 := ((Below.refl w.heap.size w).alloc (Nat.le_refl _) (.cells #[.int .i64 0, .slice none 0 0] 24)).alloc (by simp) (.cells #[.int .i64 2, .int .i64 10, .int .i64 4, .int .i64 9, .int .i64 7, .int .i64 4, .int .i64 10, .int .i64 20] 2)
  rw [World.size_alloc w] at hl
  go_enter Try.func52, Try.ntmps52
  go_wp2_with fail
  refine (aPier 5 _ _ 4 [2, 10, 4, 9, 7, 4, 10, 20] _ hl (by omega)).mono ?_
  rintro e w1 ⟨A, c, rfl, ho, hb⟩
  have k1 := k0.below hb k0.lt
  have hb1 : Below w.heap.size w w1 := hb0.trans (hb.mono (by simp; omega))
  have f0 := k1.frozen 0
  have f1 := k1.frozen 1
  have c0 := k1.cell 0
  have c1 := k1.cell 1
  have k2 := (k1.set_ 0 (.int .i64 5)).set_ 1 (.slice A 4 c)
  have ho2 := (ho.setOther (p := ⟨w.heap.size, 0, none⟩) (ho.bk_ne k1 (by decide)) (.int .i64 5)).setOther (p := ⟨w.heap.size, 1, none⟩) (ho.bk_ne k1 (by decide)) (.slice A 4 c)
  have hb2 := (hb1.setCell (p := ⟨w.heap.size, 0, none⟩) (Nat.le_refl _) (.int .i64 5)).setCell (p := ⟨w.heap.size, 1, none⟩) (Nat.le_refl _) (.slice A 4 c)
  go_wp2
  refine bodyPost_ret (results_pier rfl _ rfl k2) rfl ⟨A, c, rfl, ho2.base (by simp; omega), hb2⟩
set_option maxRecDepth 100000 in
set_option maxHeartbeats 1000000 in
theorem aLate (w : World) : Calls Try.prog 53 #[] w (RetP w 5 4 latePs) := by
  have k0 := (Bk.new w 24 #[.int .i64 0, .slice none 0 0]).alloc (.cells #[.int .i64 2, .int .i64 6, .int .i64 4, .int .i64 9, .int .i64 7, .int .i64 4, .int .i64 10, .int .i64 20] 2)
  have hl := (Oi.lit (w.alloc (.cells #[.int .i64 0, .slice none 0 0] 24)) #[.int .i64 2, .int .i64 6, .int .i64 4, .int .i64 9, .int .i64 7, .int .i64 4, .int .i64 10, .int .i64 20] 8 [2, 6, 4, 9, 7, 4, 10, 20] rfl rfl (by omega)).ri
  have hb0 := ((Below.refl w.heap.size w).alloc (Nat.le_refl _) (.cells #[.int .i64 0, .slice none 0 0] 24)).alloc (by simp) (.cells #[.int .i64 2, .int .i64 6, .int .i64 4, .int .i64 9, .int .i64 7, .int .i64 4, .int .i64 10, .int .i64 20] 2)
  rw [World.size_alloc w] at hl
  go_enter Try.func53, Try.ntmps53
  go_wp2_with fail
  refine (aPier 5 _ _ 4 [2, 6, 4, 9, 7, 4, 10, 20] _ hl (by omega)).mono ?_
  rintro e w1 ⟨A, c, rfl, ho, hb⟩
  have k1 := k0.below hb k0.lt
  have hb1 : Below w.heap.size w w1 := hb0.trans (hb.mono (by simp; omega))
  have f0 := k1.frozen 0
  have f1 := k1.frozen 1
  have c0 := k1.cell 0
  have c1 := k1.cell 1
  have k2 := (k1.set_ 0 (.int .i64 5)).set_ 1 (.slice A 4 c)
  have ho2 := (ho.setOther (p := ⟨w.heap.size, 0, none⟩) (ho.bk_ne k1 (by decide)) (.int .i64 5)).setOther (p := ⟨w.heap.size, 1, none⟩) (ho.bk_ne k1 (by decide)) (.slice A 4 c)
  have hb2 := (hb1.setCell (p := ⟨w.heap.size, 0, none⟩) (Nat.le_refl _) (.int .i64 5)).setCell (p := ⟨w.heap.size, 1, none⟩) (Nat.le_refl _) (.slice A 4 c)
  go_wp2
  refine bodyPost_ret (results_pier rfl _ rfl k2) rfl ⟨A, c, rfl, ho2.base (by simp; omega), hb2⟩

/-- The bounds of 'table'. -/
def tableRs (v : Int) : List (List (Int × Int)) := [[(0, 0), (-1, 2), (-1, 5)], [(1, -1), (5, 4), (-1, 7)], [(3, -1), (7, -1), (-1, v)]]
set_option maxRecDepth 100000 in
set_option maxHeartbeats 1000000 in
theorem aTable (v : Int) (w : World) : Calls Try.prog 55 #[.int .i64 v] w fun e w' => ∃ (O : Nat) (ks : List Nat), e = .returned (.slice (some ⟨O, 0, none⟩) 3 3) ∧ OB w' O 3 3 ks (gvE (tableRs v)) ∧ ks.length = 3 ∧ w.heap.size ≤ O ∧ (∀ k ∈ ks, w.heap.size ≤ k) ∧ Below w.heap.size w w' := by
  have hb0 := (((Below.refl w.heap.size w).alloc (Nat.le_refl _) (.cells #[.int .i64 0, .int .i64 0, .int .i64 (-1), .int .i64 2, .int .i64 (-1), .int .i64 5] 76)).alloc (by simp) (.cells #[.int .i64 1, .int .i64 (-1), .int .i64 5, .int .i64 4, .int .i64 (-1), .int .i64 7] 76)).alloc (by simp; omega) (.cells #[.int .i64 3, .int .i64 (-1), .int .i64 7, .int .i64 (-1), .int .i64 (-1), .int .i64 v] 76)
  go_enter Try.func55, Try.ntmps55
  go_wp2_with fail
  refine (aEnds _ _).mono ?_
  rintro e w' ⟨rfl, rfl⟩
  go_wp2_with fail
  refine (aEnds _ _).mono ?_
  rintro e w' ⟨rfl, rfl⟩
  go_wp2_with fail
  refine (aEnds _ _).mono ?_
  rintro e w' ⟨rfl, rfl⟩
  go_wp2
  go_ret
  have r0 := ((Bk.new w 76 #[.int .i64 0, .int .i64 0, .int .i64 (-1), .int .i64 2, .int .i64 (-1), .int .i64 5]).alloc (.cells #[.int .i64 1, .int .i64 (-1), .int .i64 5, .int .i64 4, .int .i64 (-1), .int .i64 7] 76)).alloc (.cells #[.int .i64 3, .int .i64 (-1), .int .i64 7, .int .i64 (-1), .int .i64 (-1), .int .i64 v] 76)
  have r1 := (Bk.new (w.alloc (.cells #[.int .i64 0, .int .i64 0, .int .i64 (-1), .int .i64 2, .int .i64 (-1), .int .i64 5] 76)) 76 #[.int .i64 1, .int .i64 (-1), .int .i64 5, .int .i64 4, .int .i64 (-1), .int .i64 7]).alloc (.cells #[.int .i64 3, .int .i64 (-1), .int .i64 7, .int .i64 (-1), .int .i64 (-1), .int .i64 v] 76)
  have r2 := Bk.new ((w.alloc (.cells #[.int .i64 0, .int .i64 0, .int .i64 (-1), .int .i64 2, .int .i64 (-1), .int .i64 5] 76)).alloc (.cells #[.int .i64 1, .int .i64 (-1), .int .i64 5, .int .i64 4, .int .i64 (-1), .int .i64 7] 76)) 76 #[.int .i64 3, .int .i64 (-1), .int .i64 7, .int .i64 (-1), .int .i64 (-1), .int .i64 v]
  simp only [World.size_alloc] at r1 r2
  refine ⟨w.heap.size + 1 + 1 + 1, [w.heap.size, w.heap.size + 1, w.heap.size + 1 + 1], rfl, ⟨?_, by simp, by simp; omega, fun i k hi => ?_⟩, rfl, by omega, fun k hk => by simp at hk; omega, hb0.alloc (by simp; omega) _⟩
  · have ro := Bk.new (((w.alloc (.cells #[.int .i64 0, .int .i64 0, .int .i64 (-1), .int .i64 2, .int .i64 (-1), .int .i64 5] 76)).alloc (.cells #[.int .i64 1, .int .i64 (-1), .int .i64 5, .int .i64 4, .int .i64 (-1), .int .i64 7] 76)).alloc (.cells #[.int .i64 3, .int .i64 (-1), .int .i64 7, .int .i64 (-1), .int .i64 (-1), .int .i64 v] 76)) 77 #[.slice (some ⟨w.heap.size, 0, none⟩) 3 3, .slice (some ⟨w.heap.size + 1, 0, none⟩) 3 3, .slice (some ⟨w.heap.size + 1 + 1, 0, none⟩) 3 3]
    simp only [World.size_alloc] at ro
    exact ro
  · match i, hi with
    | 0, hi =>
      obtain rfl : w.heap.size = k := Option.some.inj hi
      exact r0.alloc _
    | 1, hi =>
      obtain rfl : w.heap.size + 1 = k := Option.some.inj hi
      exact r1.alloc _
    | 2, hi =>
      obtain rfl : w.heap.size + 1 + 1 = k := Option.some.inj hi
      exact r2.alloc _
end Go.Proofs.Ytaekjnjignlmoaa
