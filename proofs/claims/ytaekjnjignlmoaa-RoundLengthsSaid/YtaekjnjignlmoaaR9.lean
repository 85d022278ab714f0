/-
  The reference: 'LengthOf', 'Count', 'Round', 'Shortest'. Printed by gen_r9.py.
-/
import Derived.Test.YtaekjnjignlmoaaR8
import Derived.Test.YtaekjnjignlmoaaJ
namespace Go.Proofs.Ytaekjnjignlmoaa
open Go.RowKit Go.Shelf

theorem RRj.base {w : World} {base base' n c m : Nat} {A : Option Addr} {Ls : List (List Int)} (h : RRj w base A n c m Ls) (hB : base' ≤ base) : RRj w base' A n c m Ls := by
  obtain ⟨vs, h1, h2⟩ := h
  exact ⟨vs, own_base h1 hB, h2.1, fun i L hL => by
    obtain ⟨g, c', h3, h4⟩ := h2.2 i L hL
    exact ⟨g, c', h3, h4.base hB⟩⟩
set_option maxRecDepth 100000 in
set_option maxHeartbeats 4000000 in
theorem rLengthOf (b : Int) (A : Option Addr) (n c : Nat) (ps : List (Int × Int)) (D : Option Addr) (m d : Nat) (l : List Nat) (w : World) (h_p : Rp w w.heap.size A n ps) (HP : Hid (Pier b ps)) (h_l : Ri w w.heap.size D m (ofN l)) (hm : m = n) (HA : Hid (l ∈ allR b ps)) (v : Int) (HV : Hid (lenR b ps l = v)) :
    Calls Try.prog 69 #[.agg #[.int .i64 b, .slice A n c], .slice D m d] w (RetI w v) := by
  subst hm
  have HL := Lib.hid h_p.len
  have HLL : Hid (l.length = m) := Lib.hid (by have := h_l.len; rwa [ofN_length] at this)
  obtain ⟨n, hmn⟩ : ∃ n, m = n := ⟨_, rfl⟩
  subst hmn
  have hn1 : 1 ≤ m := by rw [← HL.out]; exact HP.out.lo
  have hn10 : m ≤ 10 := by rw [← HL.out]; exact HP.out.hi
  obtain ⟨kn, HKN⟩ : ∃ k : Nat, Hid (m = k + 1) := ⟨m - 1, Lib.hid (by omega)⟩
  have hkn : kn < m := by have := HKN.out; omega
  have hwk : IntKind.i64.wrap ((m : Int) - 1) = (kn : Int) := by rw [IntWalk.i64_in _ (by omega)]; have := HKN.out; omega
  obtain ⟨T, HT⟩ : ∃ T, Hid ((stepsL b ps l).take m = T) := ⟨_, Lib.hid rfl⟩
  have hmix : Try.prog.follows .mixedOrders = true := by kernel_rfl
  have k1 := Bk.new w 24 #[.int .i64 b, .slice A m c]
  have hb : Below w.heap.size w (w.alloc (.cells #[.int .i64 b, .slice A m c] 24)) := (Below.refl _ _).alloc (Nat.le_refl _) _
  go_enter Try.func69, Try.ntmps69
  go_wp2
  obtain ⟨u1, hu⟩ : ∃ k, w.heap.size = k := ⟨_, rfl⟩
  obtain ⟨w1, hW⟩ : ∃ W, w.alloc (.cells #[.int .i64 b, .slice A m c] 24) = W := ⟨_, rfl⟩
  rw [hW] at k1 hb ⊢
  rw [hu] at k1 ⊢
  clear hW
  have HU := Lib.hid hu
  clear hu
  have Bw1 : Below w.heap.size w w1 := hb
  replace h_p := h_p.next hb (Nat.le_refl _) hb.size
  replace h_l := h_l.next hb (Nat.le_refl _) hb.size
  clear hb
  obtain ⟨ad, x0, rfl, _, cl, hxl, _⟩ := h_l.at_ hkn
  obtain ⟨i, hi1, rfl⟩ := ofN_at hxl.out
  have HI := Lib.hid hi1
  clear hi1 hxl
  have HLA : Hid (lastOf l = i) := Lib.hid (by
    unfold lastOf
    rw [List.getLast?_eq_getElem?, HLL.out, show m - 1 = kn from by have := HKN.out; omega, HI.out]
    rfl)
  have hin : i < m := by have := (allR_iff.1 HA.out).2.2 i (List.mem_of_getElem? HI.out); rw [HL.out] at this; exact this
  have e0 := k1.drew.cell 0
  have e1 := k1.drew.cell 1
  have e2 : w1.drew.cell? (ad.add kn) = some (.int .i64 (i : Int)) := cl
  refine wp_region_held_drew (S := fun V => V.cell? ⟨u1, 0, none⟩ = some (.int .i64 b) ∧ V.cell? ⟨u1, 1, none⟩ = some (.slice A m c) ∧ V.cell? (ad.add kn) = some (.int .i64 (i : Int))) hmix ⟨e0, e1, e2⟩ (fun hS => ?_)
  clear e0 e1 e2
  obtain ⟨w2, hW⟩ : ∃ W, w1.drew = W := ⟨_, rfl⟩
  have hb : Below w1.heap.size w1 w2 := hW ▸ below_drewN (Below.refl _ _) 1
  rw [hW] at hS ⊢
  clear hW
  have Bw2 : Below w.heap.size w w2 := Bw1.trans (hb.mono Bw1.size)
  replace h_p := h_p.next hb (Nat.le_refl _) hb.size
  replace h_l := h_l.next hb (Nat.le_refl _) hb.size
  replace k1 := k1.below hb k1.lt
  replace cl := (hb.cell (World.block_lt_of_cell? _ _ cl)).trans cl
  clear Bw1
  clear hb
  refine wpAnyH_take (i := 0) (v := ?_) rfl (by kernel_rfl) (by kernel_rfl) (by kernel_rfl) (fun _ _ _ h => h) (Or.inl ⟨by rfl, ?_⟩) hS ?_
  rotate_left
  · intro w hSw
    (try dsimp only at hSw)
    go_simp
    (try with_reducible rfl)
  try simp (maxSteps := 10000000) only [Act.put, List.setIfInBounds_toArray, List.set_cons_zero, List.set_cons_succ, List.getElem_toArray, List.getElem_cons_zero]
  refine wpAnyH_take (i := 1) (v := ?_) rfl (by kernel_rfl) (by kernel_rfl) (by kernel_rfl) (fun _ _ _ h => h) (Or.inl ⟨by rfl, ?_⟩) hS ?_
  rotate_left
  · intro w hSw
    (try dsimp only at hSw)
    go_simp
    (try with_reducible rfl)
  try simp (maxSteps := 10000000) only [Act.put, List.setIfInBounds_toArray, List.set_cons_zero, List.set_cons_succ, List.getElem_toArray, List.getElem_cons_zero, List.getElem_cons_succ]
  refine wpAnyH_take (i := 3) (v := ?_) rfl (by kernel_rfl) (by kernel_rfl) (by kernel_rfl) (fun _ _ _ h => h) (Or.inl ⟨by rfl, ?_⟩) hS ?_
  rotate_left
  · intro w hSw
    (try dsimp only at hSw)
    go_simp
    (try with_reducible rfl)
  try simp (maxSteps := 10000000) only [Act.put, List.setIfInBounds_toArray, List.set_cons_zero, List.set_cons_succ, List.getElem_toArray, List.getElem_cons_zero, List.getElem_cons_succ]
  refine wpAnyH_take (i := 4) (v := ?_) rfl (by kernel_rfl) (by kernel_rfl) (by kernel_rfl) (fun _ _ _ h => h) (Or.inl ⟨by rfl, ?_⟩) hS ?_
  rotate_left
  · intro w hSw
    (try dsimp only at hSw)
    go_simp
    (try with_reducible rfl)
  try simp (maxSteps := 10000000) only [Act.put, List.setIfInBounds_toArray, List.set_cons_zero, List.set_cons_succ, List.getElem_toArray, List.getElem_cons_zero, List.getElem_cons_succ]
  refine wpAnyH_take (i := 5) (v := ?_) rfl (by kernel_rfl) (by kernel_rfl) (by kernel_rfl) (fun _ _ _ h => h) (Or.inl ⟨by rfl, ?_⟩) hS ?_
  rotate_left
  · intro w hSw
    (try dsimp only at hSw)
    go_simp
    (try with_reducible rfl)
  try simp (maxSteps := 10000000) only [Act.put, List.setIfInBounds_toArray, List.set_cons_zero, List.set_cons_succ, List.getElem_toArray, List.getElem_cons_zero, List.getElem_cons_succ]
  refine wpAnyH_take (i := 6) (v := ?_) rfl (by kernel_rfl) (by kernel_rfl) (by kernel_rfl) (fun _ _ _ h => h) (Or.inl ⟨by rfl, ?_⟩) hS ?_
  rotate_left
  · intro w hSw
    (try dsimp only at hSw)
    go_simp
    (try with_reducible rfl)
  try simp (maxSteps := 10000000) only [Act.put, List.setIfInBounds_toArray, List.set_cons_zero, List.set_cons_succ, List.getElem_toArray, List.getElem_cons_zero, List.getElem_cons_succ]
  refine wpAnyH_take (i := 7) (v := ?_) rfl (by kernel_rfl) (by kernel_rfl) (by kernel_rfl) (fun _ _ _ h => h) (Or.inl ⟨by rfl, ?_⟩) hS ?_
  rotate_left
  · intro w hSw
    (try dsimp only at hSw)
    go_simp
    (try with_reducible rfl)
  try simp (maxSteps := 10000000) only [Act.put, List.setIfInBounds_toArray, List.set_cons_zero, List.set_cons_succ, List.getElem_toArray, List.getElem_cons_zero, List.getElem_cons_succ]
  refine wpAnyH_take (i := 8) (v := ?_) rfl (by kernel_rfl) (by kernel_rfl) (by kernel_rfl) (fun _ _ _ h => h) (Or.inl ⟨by rfl, ?_⟩) hS ?_
  rotate_left
  · intro w hSw
    (try dsimp only at hSw)
    go_simp
    (try with_reducible rfl)
  try simp (maxSteps := 10000000) only [Act.put, List.setIfInBounds_toArray, List.set_cons_zero, List.set_cons_succ, List.getElem_toArray, List.getElem_cons_zero, List.getElem_cons_succ]
  refine wpAnyH_ready (rs := [2]) (by kernel_rfl) (by simp) ?_
  refine AllReadyH.cons rfl (fun K hK => ?_) AllReadyH.nil
  go_simp
  refine (rStepsOf b A m c ps _ m d l _ h_p HP h_l HA T HT).mono ?_
  rintro e w3 ⟨As, ns, cs, rfl, ho, hb⟩
  have Bw3 : Below w.heap.size w w3 := Bw2.trans (hb.mono Bw2.size)
  replace h_p := h_p.next hb (Nat.le_refl _) hb.size
  replace h_l := h_l.next hb (Nat.le_refl _) hb.size
  replace k1 := k1.below hb k1.lt
  replace cl := (hb.cell (World.block_lt_of_cell? _ _ cl)).trans cl
  clear Bw2
  clear hb
  have h_s := ho.ri
  clear ho
  obtain rfl : ns = m := by
    have h1 := h_s.len
    obtain ⟨s, hs, hkk, _⟩ := full_round HP.out HA.out
    rw [← HT.out, stepsL_some hs, List.length_take, hkk.out] at h1
    omega
  refine hK.out _ _ ⟨k1.cell 0, k1.cell 1, cl⟩ (fun hS => ?_)
  clear hK K
  try simp (maxSteps := 10000000) only [Act.put, List.setIfInBounds_toArray, List.set_cons_zero, List.set_cons_succ, List.getElem_toArray, List.getElem_cons_zero, List.getElem_cons_succ]
  obtain ⟨adT, xT, rfl, _, cT, hxT, _⟩ := h_s.at_ hin
  have HXT : Hid (xT = v) := Lib.hid (by
    have h1 := nth_some hxT.out
    rw [← HT.out, nth_take hin] at h1
    rw [← h1, ← HV.out]
    unfold lenR
    rw [HLA.out])
  refine wpAnyH_ready (rs := [9]) (by kernel_rfl) (by simp) ?_
  refine AllReadyH.cons rfl (fun K hK => ?_) AllReadyH.nil
  go_simp
  refine hK.out _ _ ⟨k1.cell 0, k1.cell 1, cl⟩ (fun hS => ?_)
  clear hK K
  try simp (maxSteps := 10000000) only [Act.put, List.setIfInBounds_toArray, List.set_cons_zero, List.set_cons_succ, List.getElem_toArray, List.getElem_cons_zero, List.getElem_cons_succ]
  refine wpAnyH_ready (rs := [10]) (by kernel_rfl) (by simp) ?_
  refine AllReadyH.cons rfl (fun K hK => ?_) AllReadyH.nil
  go_simp
  refine hK.out _ _ ⟨k1.cell 0, k1.cell 1, cl⟩ (fun hS => ?_)
  clear hK K
  try simp (maxSteps := 10000000) only [Act.put, List.setIfInBounds_toArray, List.set_cons_zero, List.set_cons_succ, List.getElem_toArray, List.getElem_cons_zero, List.getElem_cons_succ]
  refine wpAnyH_take (i := 11) (v := ?_) rfl (by kernel_rfl) (by kernel_rfl) (by kernel_rfl) (fun _ _ _ h => h) (Or.inl ⟨by rfl, ?_⟩) hS ?_
  rotate_left
  · intro w hSw
    (try dsimp only at hSw)
    go_simp
    (try with_reducible rfl)
  try simp (maxSteps := 10000000) only [Act.put, List.setIfInBounds_toArray, List.set_cons_zero, List.set_cons_succ, List.getElem_toArray, List.getElem_cons_zero, List.getElem_cons_succ]
  refine wpAnyH_done (by kernel_rfl) ?_ _
  clear hS cT
  go_wp2
  go_ret
  exact ⟨ret_i HXT.out, Bw3⟩
set_option maxRecDepth 100000 in
set_option maxHeartbeats 4000000 in
theorem rCount (b : Int) (A : Option Addr) (n c : Nat) (ps : List (Int × Int)) (w : World) (h_p : Rp w w.heap.size A n ps) (hn : n ≤ 1048576) (v : Int × Int) (HV : Hid (countS b ps = v)) :
    Calls Try.prog 29 #[.agg #[.int .i64 b, .slice A n c]] w (RetII w v.1 v.2) := by
  have HL := Lib.hid h_p.len
  obtain ⟨q, HQ⟩ : ∃ q, Hid (checkPier b ps = q) := ⟨_, Lib.hid rfl⟩
  have hmix : Try.prog.follows .mixedOrders = true := by kernel_rfl
  have k1 := Bk.new w 24 #[.int .i64 b, .slice A n c]
  have hb : Below w.heap.size w (w.alloc (.cells #[.int .i64 b, .slice A n c] 24)) := (Below.refl _ _).alloc (Nat.le_refl _) _
  have q0 := k1.cell 0
  have q1 := k1.cell 1
  go_enter Try.func29, Try.ntmps29
  go_wp2_with fail
  clear q0 q1
  obtain ⟨u1, hu⟩ : ∃ k, w.heap.size = k := ⟨_, rfl⟩
  obtain ⟨w1, hW⟩ : ∃ W, w.alloc (.cells #[.int .i64 b, .slice A n c] 24) = W := ⟨_, rfl⟩
  rw [hW] at k1 hb ⊢
  rw [hu] at k1 ⊢
  clear hW
  have HU := Lib.hid hu
  clear hu
  have Bw1 : Below w.heap.size w w1 := hb
  replace h_p := h_p.next hb (Nat.le_refl _) hb.size
  clear hb
  refine (rCheckPier b A n c ps _ h_p hn q HQ).mono ?_
  rintro e w2 ⟨rfl, hb⟩
  have Bw2 : Below w.heap.size w w2 := Bw1.trans (hb.mono Bw1.size)
  replace h_p := h_p.next hb (Nat.le_refl _) hb.size
  replace k1 := k1.below hb k1.lt
  clear Bw1
  clear hb
  by_cases hq : q = 0
  rotate_left
  · have hqb : (q != 0) = true := by simp [hq]
    have HNQ := Lib.hid hq
    clear hq
    have d_k1_0 := k1.cell 0
    have d_k1_1 := k1.cell 1
    go_wp2_with fail
    clear d_k1_0 d_k1_1
    refine (rCheckPier b A n c ps _ h_p hn q HQ).mono ?_
    rintro e w3 ⟨rfl, hb⟩
    have Bw3 : Below w.heap.size w w3 := Bw2.trans (hb.mono Bw2.size)
    replace h_p := h_p.next hb (Nat.le_refl _) hb.size
    replace k1 := k1.below hb k1.lt
    clear Bw2
    clear hb
    go_wp2
    go_ret2
    exact ⟨by rw [← HV.out]; unfold countS; rw [HQ.out, if_neg HNQ.out]; rfl, Bw3⟩
  subst hq
  have HP : Hid (Pier b ps) := Lib.hid (checkPier_ok.1 HQ.out)
  have hn1 : 1 ≤ n := by rw [← HL.out]; exact HP.out.lo
  have hn10 : n ≤ 10 := by rw [← HL.out]; exact HP.out.hi
  obtain ⟨NG, HNG⟩ : ∃ N, Hid ((goodR b ps).length = N) := ⟨_, Lib.hid rfl⟩
  have d_k1_0 := k1.cell 0
  have d_k1_1 := k1.cell 1
  go_wp2_with fail
  clear d_k1_0 d_k1_1
  refine (rGood b A n c ps _ h_p HP NG HNG).mono ?_
  rintro e w3 ⟨Al, cl, rfl, hro, hb⟩
  have Bw3 : Below w.heap.size w w3 := Bw2.trans (hb.mono Bw2.size)
  replace h_p := h_p.next hb (Nat.le_refl _) hb.size
  replace k1 := k1.below hb k1.lt
  clear Bw2
  clear hb
  clear hro
  go_wp2
  go_ret2
  exact ⟨by rw [← HV.out]; unfold countS; rw [HQ.out, if_pos rfl, HNG.out]; rfl, Bw3⟩
set_option maxRecDepth 100000 in
set_option maxHeartbeats 8000000 in
theorem rRound (b : Int) (A : Option Addr) (n c : Nat) (ps : List (Int × Int)) (w : World) (h_p : Rp w w.heap.size A n ps) (hn : n ≤ 1048576) (v : List Nat × Int × Int) (HV : Hid (shortestS b ps = v)) :
    Calls Try.prog 27 #[.agg #[.int .i64 b, .slice A n c]] w (RetJE w (ofN v.1) v.2.2) := by
  have HL := Lib.hid h_p.len
  obtain ⟨q, HQ⟩ : ∃ q, Hid (checkPier b ps = q) := ⟨_, Lib.hid rfl⟩
  have hmix : Try.prog.follows .mixedOrders = true := by kernel_rfl
  have k1 := Bk.new w 24 #[.int .i64 b, .slice A n c]
  have hb : Below w.heap.size w (w.alloc (.cells #[.int .i64 b, .slice A n c] 24)) := (Below.refl _ _).alloc (Nat.le_refl _) _
  have q0 := k1.cell 0
  have q1 := k1.cell 1
  go_enter Try.func27, Try.ntmps27
  go_wp2_with fail
  clear q0 q1
  obtain ⟨u1, hu⟩ : ∃ k, w.heap.size = k := ⟨_, rfl⟩
  obtain ⟨w1, hW⟩ : ∃ W, w.alloc (.cells #[.int .i64 b, .slice A n c] 24) = W := ⟨_, rfl⟩
  rw [hW] at k1 hb ⊢
  rw [hu] at k1 ⊢
  clear hW
  have HU := Lib.hid hu
  clear hu
  have Bw1 : Below w.heap.size w w1 := hb
  replace h_p := h_p.next hb (Nat.le_refl _) hb.size
  clear hb
  refine (rCheckPier b A n c ps _ h_p hn q HQ).mono ?_
  rintro e w2 ⟨rfl, hb⟩
  have Bw2 : Below w.heap.size w w2 := Bw1.trans (hb.mono Bw1.size)
  replace h_p := h_p.next hb (Nat.le_refl _) hb.size
  replace k1 := k1.below hb k1.lt
  clear Bw1
  clear hb
  by_cases hq : q = 0
  rotate_left
  · have hqb : (q != 0) = true := by simp [hq]
    have HNQ := Lib.hid hq
    clear hq
    have d_k1_0 := k1.cell 0
    have d_k1_1 := k1.cell 1
    go_wp2_with fail
    clear d_k1_0 d_k1_1
    refine (rCheckPier b A n c ps _ h_p hn q HQ).mono ?_
    rintro e w3 ⟨rfl, hb⟩
    have Bw3 : Below w.heap.size w w3 := Bw2.trans (hb.mono Bw2.size)
    replace h_p := h_p.next hb (Nat.le_refl _) hb.size
    replace k1 := k1.below hb k1.lt
    clear Bw2
    clear hb
    go_wp2
    go_ret2
    have HE : Hid (v = ([], 0, q)) := Lib.hid (by rw [← HV.out]; unfold shortestS; rw [HQ.out, if_neg HNQ.out])
    exact ⟨none, 0, 0, by rw [HE.out]; rfl, by rw [HE.out]; exact Oj.nil_ _ _, Bw3⟩
  subst hq
  have HP : Hid (Pier b ps) := Lib.hid (checkPier_ok.1 HQ.out)
  have hn1 : 1 ≤ n := by rw [← HL.out]; exact HP.out.lo
  have hn10 : n ≤ 10 := by rw [← HL.out]; exact HP.out.hi
  obtain ⟨NG, HNG⟩ : ∃ N, Hid ((goodR b ps).length = N) := ⟨_, Lib.hid rfl⟩
  have hNGb : NG ≤ 252 := by
    have h1 := allR_many HP.out
    have h2 := List.length_filter_le (inTimeB b ps) (allR b ps)
    have h3 := HNG.out
    unfold goodR at h3
    omega
  have hbase : w.heap.size ≤ w2.heap.size := Bw2.size
  have d_k1_0 := k1.cell 0
  have d_k1_1 := k1.cell 1
  go_wp2_with fail
  clear d_k1_0 d_k1_1
  refine (rGood b A n c ps _ h_p HP NG HNG).mono ?_
  rintro e w3 ⟨Al, cl, rfl, hro, hb⟩
  have Bw3 : Below w.heap.size w w3 := Bw2.trans (hb.mono Bw2.size)
  replace h_p := h_p.next hb (Nat.le_refl _) hb.size
  replace k1 := k1.below hb k1.lt
  clear Bw2
  clear hb
  have h_l := hro.base hbase
  clear hro
  by_cases hng : NG = 0
  · have HGE : Hid (goodR b ps = []) := Lib.hid (List.eq_nil_of_length_eq_zero (by rw [HNG.out]; exact hng))
    have hnb : ((NG : Int) == 0) = true := by simp [hng]
    have HE : Hid (v = ([], 0, 12)) := Lib.hid (by rw [← HV.out]; unfold shortestS; rw [HQ.out, if_pos rfl, if_pos HGE.out])
    clear hng
    go_wp2
    go_ret2
    exact ⟨none, 0, 0, by rw [HE.out]; rfl, by rw [HE.out]; exact Oj.nil_ _ _, Bw3⟩
  · have HGE : Hid (goodR b ps ≠ []) := Lib.hid (fun e => by have := HNG.out; rw [e] at this; simp at this; omega)
    have hnb : ((NG : Int) == 0) = false := by simp [hng]
    have hng0 : 0 < NG := by omega
    obtain ⟨ad, g0, cg0, L0, rfl, _, _, c00, HL0, hrow0⟩ := h_l.at_ hng0
    obtain ⟨l0, HLl0⟩ : ∃ l, Hid ((goodR b ps)[0]? = some l) := ⟨_, Lib.hid (List.getElem?_eq_getElem (by rw [HNG.out]; exact hng0))⟩
    have HLo0 : Hid (L0 = ofN l0) := Lib.hid (by
      have h1 := HL0.out
      rw [List.getElem?_map, HLl0.out] at h1
      exact (Option.some.inj h1).symm)
    rw [HLo0.out] at hrow0
    have c0a : w3.cell? ad = some (.slice (some ⟨g0, 0, none⟩) n cg0) := c00
    have d_k1_0 := k1.cell 0
    have d_k1_1 := k1.cell 1
    go_wp2
    clear d_k1_0 d_k1_1
    clear c0a
    go_loopw [5, 6] (fun o i wr => ∃ (k gb cb : Nat) (lb : List Nat), k ≤ NG ∧ i = .int .i64 (k : Int) ∧ o = .slice (some ⟨gb, 0, none⟩) n cb ∧ Oj wr w.heap.size (some ⟨gb, 0, none⟩) n cb (ofN lb) ∧ Hid (lb = firstBest (lenR b ps) ((goodR b ps).take (max k 1)) ∧ lb ∈ goodR b ps) ∧ Below w3.heap.size w3 wr) (fun _ i _ => NG - (intOf i).toNat)
    case atStart => exact ⟨0, g0, cg0, l0, Nat.zero_le _, rfl, rfl, hrow0, Lib.hid ⟨by
      have h1 := HLl0.out
      cases hG : goodR b ps with
      | nil => rw [hG] at h1; cases h1
      | cons x xs =>
        rw [hG] at h1
        have : x = l0 := by simpa using h1
        subst this
        simp [firstBest], List.mem_of_getElem? HLl0.out⟩, Below.refl _ _⟩
    case round =>
      clear hrow0 c00
      obtain ⟨k, gb, cb, lb, hk, rfl, rfl, hob, HLB, hb⟩ := hrel
      obtain ⟨w4, hW⟩ : ∃ W : World, wr = W := ⟨_, rfl⟩
      rw [hW] at hb hob ⊢
      clear hW
      have Bl := hb
      have Bw4 : Below w.heap.size w w4 := Bw3.trans (hb.mono Bw3.size)
      replace h_p := h_p.next hb (Nat.le_refl _) hb.size
      replace k1 := k1.below hb k1.lt
      replace h_l := h_l.below hb
      clear Bw3
      clear hb
      by_cases hlt : k < NG
      · obtain ⟨ad', gr, cg, L, hA, _, _, cl0, HLk, hrow⟩ := h_l.at_ hlt
        obtain rfl : ad = ad' := Option.some.inj hA
        clear hA
        obtain ⟨l, HLl⟩ : ∃ l, Hid ((goodR b ps)[k]? = some l) := ⟨_, Lib.hid (List.getElem?_eq_getElem (by rw [HNG.out]; exact hlt))⟩
        have HLo : Hid (L = ofN l) := Lib.hid (by
          have h1 := HLk.out
          rw [List.getElem?_map, HLl.out] at h1
          exact (Option.some.inj h1).symm)
        rw [HLo.out] at hrow
        have HGl : Hid (l ∈ goodR b ps) := Lib.hid (List.mem_of_getElem? HLl.out)
        have HAl : Hid (l ∈ allR b ps) := Lib.hid (mem_goodR.1 HGl.out).1
        have HAb : Hid (lb ∈ allR b ps) := Lib.hid (mem_goodR.1 HLB.out.2).1
        have h_r := hrow.ri
        have h_b := hob.ri
        obtain ⟨v1, HV1⟩ : ∃ z, Hid (lenR b ps l = z) := ⟨_, Lib.hid rfl⟩
        obtain ⟨v2, HV2⟩ : ∃ z, Hid (lenR b ps lb = z) := ⟨_, Lib.hid rfl⟩
        have HNX : Hid (firstBest (lenR b ps) ((goodR b ps).take (max (k + 1) 1)) = if v1 < v2 then l else lb) := Lib.hid (by
          rcases Nat.eq_zero_or_pos k with h0 | h0
          · have h1 := HLB.out.1
            have h2 := HLl.out
            rw [h0] at h1 h2
            rw [h0, show max (0 + 1) 1 = 1 from rfl]
            rw [show max 0 1 = 1 from rfl] at h1
            have h3 : lb = l := by
              rw [h1]
              cases hG : goodR b ps with
              | nil => rw [hG] at h2; cases h2
              | cons x xs =>
                rw [hG] at h2
                have : x = l := by simpa using h2
                subst this
                simp [firstBest]
            rw [← h1, h3]
            split <;> rfl
          · rw [show max (k + 1) 1 = k + 1 by omega, take_snoc HLl.out, firstBest_snoc _ (by
              intro e
              have h1 := congrArg List.length e
              rw [List.length_take, HNG.out] at h1
              simp at h1
              omega)]
            have h1 := HLB.out.1
            rw [show max k 1 = k by omega] at h1
            rw [← h1, HV1.out, HV2.out])
        have d_k1_0 := k1.cell 0
        have d_k1_1 := k1.cell 1
        go_wp2
        clear d_k1_0 d_k1_1
        have e_k1_0 := k1.drew.cell 0
        have e_k1_1 := k1.drew.cell 1
        have e_cl0 : w4.drew.cell? (ad.add k) = some (.slice (some ⟨gr, 0, none⟩) n cg) := cl0
        refine wp_region_noPanic ?_
        refine wp_region_held_drew (S := fun V => V.cell? ⟨u1, 0, none⟩ = some (.int .i64 b) ∧ V.cell? ⟨u1, 1, none⟩ = some (.slice A n c) ∧ V.cell? (ad.add k) = some (.slice (some ⟨gr, 0, none⟩) n cg)) hmix ⟨e_k1_0, e_k1_1, e_cl0⟩ (fun hS => ?_)
        clear e_k1_0 e_k1_1 e_cl0
        obtain ⟨w5, hW⟩ : ∃ W, w4.drew = W := ⟨_, rfl⟩
        have hb : Below w4.heap.size w4 w5 := hW ▸ below_drewN (Below.refl _ _) 1
        rw [hW] at hS ⊢
        clear hW
        have Bw5 : Below w.heap.size w w5 := Bw4.trans (hb.mono Bw4.size)
        replace h_p := h_p.next hb (Nat.le_refl _) hb.size
        replace k1 := k1.below hb k1.lt
        replace h_l := h_l.below hb
        replace Bl := Bl.trans (hb.mono Bl.size)
        replace hob := hob.below hb
        replace hrow := hrow.below hb
        replace h_r := h_r.next hb (Nat.le_refl _) hb.size
        replace h_b := h_b.next hb (Nat.le_refl _) hb.size
        replace cl0 := (hb.cell (World.block_lt_of_cell? _ _ cl0)).trans cl0
        clear Bw4
        clear hb
        refine wpAnyH_take (i := 0) (v := ?_) rfl (by kernel_rfl) (by kernel_rfl) (by kernel_rfl) (fun _ _ _ h => h) (Or.inl ⟨by rfl, ?_⟩) hS ?_
        rotate_left
        · intro w hSw
          (try dsimp only at hSw)
          go_simp
          (try with_reducible rfl)
        try simp (maxSteps := 10000000) only [Act.put, List.setIfInBounds_toArray, List.set_cons_zero, List.set_cons_succ, List.getElem_toArray, List.getElem_cons_zero]
        refine wpAnyH_take (i := 1) (v := ?_) rfl (by kernel_rfl) (by kernel_rfl) (by kernel_rfl) (fun _ _ _ h => h) (Or.inl ⟨by rfl, ?_⟩) hS ?_
        rotate_left
        · intro w hSw
          (try dsimp only at hSw)
          go_simp
          (try with_reducible rfl)
        try simp (maxSteps := 10000000) only [Act.put, List.setIfInBounds_toArray, List.set_cons_zero, List.set_cons_succ, List.getElem_toArray, List.getElem_cons_zero, List.getElem_cons_succ]
        refine wpAnyH_take (i := 2) (v := ?_) rfl (by kernel_rfl) (by kernel_rfl) (by kernel_rfl) (fun _ _ _ h => h) (Or.inl ⟨by rfl, ?_⟩) hS ?_
        rotate_left
        · intro w hSw
          (try dsimp only at hSw)
          go_simp
          (try with_reducible rfl)
        try simp (maxSteps := 10000000) only [Act.put, List.setIfInBounds_toArray, List.set_cons_zero, List.set_cons_succ, List.getElem_toArray, List.getElem_cons_zero, List.getElem_cons_succ]
        refine wpAnyH_take (i := 3) (v := ?_) rfl (by kernel_rfl) (by kernel_rfl) (by kernel_rfl) (fun _ _ _ h => h) (Or.inl ⟨by rfl, ?_⟩) hS ?_
        rotate_left
        · intro w hSw
          (try dsimp only at hSw)
          go_simp
          (try with_reducible rfl)
        try simp (maxSteps := 10000000) only [Act.put, List.setIfInBounds_toArray, List.set_cons_zero, List.set_cons_succ, List.getElem_toArray, List.getElem_cons_zero, List.getElem_cons_succ]
        refine wpAnyH_take (i := 4) (v := ?_) rfl (by kernel_rfl) (by kernel_rfl) (by kernel_rfl) (fun _ _ _ h => h) (Or.inl ⟨by rfl, ?_⟩) hS ?_
        rotate_left
        · intro w hSw
          (try dsimp only at hSw)
          go_simp
          (try with_reducible rfl)
        try simp (maxSteps := 10000000) only [Act.put, List.setIfInBounds_toArray, List.set_cons_zero, List.set_cons_succ, List.getElem_toArray, List.getElem_cons_zero, List.getElem_cons_succ]
        refine wpAnyH_take (i := 6) (v := ?_) rfl (by kernel_rfl) (by kernel_rfl) (by kernel_rfl) (fun _ _ _ h => h) (Or.inl ⟨by rfl, ?_⟩) hS ?_
        rotate_left
        · intro w hSw
          (try dsimp only at hSw)
          go_simp
          (try with_reducible rfl)
        try simp (maxSteps := 10000000) only [Act.put, List.setIfInBounds_toArray, List.set_cons_zero, List.set_cons_succ, List.getElem_toArray, List.getElem_cons_zero, List.getElem_cons_succ]
        refine wpAnyH_take (i := 7) (v := ?_) rfl (by kernel_rfl) (by kernel_rfl) (by kernel_rfl) (fun _ _ _ h => h) (Or.inl ⟨by rfl, ?_⟩) hS ?_
        rotate_left
        · intro w hSw
          (try dsimp only at hSw)
          go_simp
          (try with_reducible rfl)
        try simp (maxSteps := 10000000) only [Act.put, List.setIfInBounds_toArray, List.set_cons_zero, List.set_cons_succ, List.getElem_toArray, List.getElem_cons_zero, List.getElem_cons_succ]
        refine wpAnyH_ready (rs := [5]) (by kernel_rfl) (by simp) ?_
        refine AllReadyH.cons rfl (fun K hK => ?_) AllReadyH.nil
        go_simp
        refine (rLengthOf b (A) n c ps _ n cg l _ h_p HP h_r rfl HAl v1 HV1).mono ?_
        rintro e w6 ⟨rfl, hb⟩
        have Bw6 : Below w.heap.size w w6 := Bw5.trans (hb.mono Bw5.size)
        replace h_p := h_p.next hb (Nat.le_refl _) hb.size
        replace k1 := k1.below hb k1.lt
        replace h_l := h_l.below hb
        replace Bl := Bl.trans (hb.mono Bl.size)
        replace hob := hob.below hb
        replace hrow := hrow.below hb
        replace h_r := h_r.next hb (Nat.le_refl _) hb.size
        replace h_b := h_b.next hb (Nat.le_refl _) hb.size
        replace cl0 := (hb.cell (World.block_lt_of_cell? _ _ cl0)).trans cl0
        clear Bw5
        clear hb
        refine hK.out _ _ ⟨k1.cell 0, k1.cell 1, cl0⟩ (fun hS => ?_)
        clear hK K
        try simp (maxSteps := 10000000) only [Act.put, List.setIfInBounds_toArray, List.set_cons_zero, List.set_cons_succ, List.getElem_toArray, List.getElem_cons_zero, List.getElem_cons_succ]
        refine wpAnyH_ready (rs := [8]) (by kernel_rfl) (by simp) ?_
        refine AllReadyH.cons rfl (fun K hK => ?_) AllReadyH.nil
        go_simp
        refine (rLengthOf b (A) n c ps _ n cb lb _ h_p HP h_b rfl HAb v2 HV2).mono ?_
        rintro e w7 ⟨rfl, hb⟩
        have Bw7 : Below w.heap.size w w7 := Bw6.trans (hb.mono Bw6.size)
        replace h_p := h_p.next hb (Nat.le_refl _) hb.size
        replace k1 := k1.below hb k1.lt
        replace h_l := h_l.below hb
        replace Bl := Bl.trans (hb.mono Bl.size)
        replace hob := hob.below hb
        replace hrow := hrow.below hb
        replace h_r := h_r.next hb (Nat.le_refl _) hb.size
        replace h_b := h_b.next hb (Nat.le_refl _) hb.size
        replace cl0 := (hb.cell (World.block_lt_of_cell? _ _ cl0)).trans cl0
        clear Bw6
        clear hb
        refine hK.out _ _ ⟨k1.cell 0, k1.cell 1, cl0⟩ (fun hS => ?_)
        clear hK K
        try simp (maxSteps := 10000000) only [Act.put, List.setIfInBounds_toArray, List.set_cons_zero, List.set_cons_succ, List.getElem_toArray, List.getElem_cons_zero, List.getElem_cons_succ]
        refine wpAnyH_take (i := 9) (v := ?_) rfl (by kernel_rfl) (by kernel_rfl) (by kernel_rfl) (fun _ _ _ h => h) (Or.inl ⟨by rfl, ?_⟩) hS ?_
        rotate_left
        · intro w hSw
          (try dsimp only at hSw)
          go_simp
          (try with_reducible rfl)
        try simp (maxSteps := 10000000) only [Act.put, List.setIfInBounds_toArray, List.set_cons_zero, List.set_cons_succ, List.getElem_toArray, List.getElem_cons_zero, List.getElem_cons_succ]
        refine wpAnyH_done (by kernel_rfl) (NoPanic.normal ?_) _
        clear hS
        by_cases hv : v1 < v2
        · have HNX2 : Hid (firstBest (lenR b ps) ((goodR b ps).take (max (k + 1) 1)) = l) := Lib.hid (by rw [HNX.out, if_pos hv])
          have hvd : decide (v1 < v2) = true := decide_eq_true hv
          have d_k1_0 := k1.cell 0
          have d_k1_1 := k1.cell 1
          go_wp2
          clear d_k1_0 d_k1_1
          go_roundw
          case rel => exact ⟨k + 1, gr, cg, l, by omega, by go_num, rfl, hrow, Lib.hid ⟨HNX2.out.symm, HGl.out⟩, Bl⟩
          case measure => simp [intOf]; omega
        · have HNX2 : Hid (firstBest (lenR b ps) ((goodR b ps).take (max (k + 1) 1)) = lb) := Lib.hid (by rw [HNX.out, if_neg hv])
          have hvd : decide (v1 < v2) = false := decide_eq_false hv
          have d_k1_0 := k1.cell 0
          have d_k1_1 := k1.cell 1
          go_wp2
          clear d_k1_0 d_k1_1
          go_roundw
          case rel => exact ⟨k + 1, gb, cb, lb, by omega, by go_num, rfl, hob, Lib.hid ⟨HNX2.out.symm, HLB.out.2⟩, Bl⟩
          case measure => simp [intOf]; omega
      · have HE : Hid (v.1 = lb ∧ v.2.2 = 0) := Lib.hid (by
          have h1 := HLB.out.1
          rw [List.take_of_length_le (by rw [HNG.out]; omega)] at h1
          rw [← HV.out]
          unfold shortestS
          rw [HQ.out, if_pos rfl, if_neg HGE.out]
          exact ⟨h1.symm, rfl⟩)
        go_wp2
        go_ret2
        exact ⟨_, _, _, by rw [HE.out.2]; rfl, by rw [HE.out.1]; exact hob, Bw4⟩
end Go.Proofs.Ytaekjnjignlmoaa
