/-
  The program: 'value'. Printed by gen_val.py.
-/
import Derived.Test.YtaekjnjignlmoaaSmB
import Derived.Test.YtaekjnjignlmoaaSq
import Derived.Test.YtaekjnjignlmoaaPlain
namespace Go.Proofs.Ytaekjnjignlmoaa
open Go.RowKit Go.Shelf
attribute [local go_sem] Oper.semAt_some

/-- The value as the program returns it. -/
def valueS (b : Int) (ps : List (Int × Int)) (num : Nat → Nat → Nat → Int) : Int × Int := if valueE b ps num < 0 then (0, 12) else (valueE b ps num, 0)
set_option maxRecDepth 100000 in
set_option maxHeartbeats 2000000 in
theorem dValue (g n c pb : Nat) (A : Option Addr) (b : Int) (ps : List (Int × Int)) (w : World) (hw : Wk w w.heap.size g A n c b ps) (HP : Hid (Pier b ps)) (num : Nat → Nat → Nat → Int)
    (hN : ∀ (V : World) (x y e : Nat), Below w.heap.size w V → x ≤ lefts b ps → y ≤ n - lefts b ps → e < 2 → Calls Try.prog 79 #[.agg #[.int .i64 (x : Int), .int .i64 (y : Int), .int .i64 (e : Int)], .pointer (some ⟨pb, 0, none⟩)] V fun r V' => r = .returned (.int .i64 (num x y e)) ∧ Below V.heap.size V V') :
    Calls Try.prog 82 #[.pointer (some ⟨g, 0, none⟩), .func (.func 79) #[] #[.pointer (some ⟨pb, 0, none⟩)]] w fun r w' => r = .returned (.tuple #[.int .i64 (valueS b ps num).1, .int .i64 (valueS b ps num).2]) ∧ Below w.heap.size w w' := by
  have HLN := Lib.hid hw.rp.len
  have hn10 : n ≤ 10 := by have := HP.out.hi; have := HLN.out; omega
  have hq := lefts_le b ps
  rw [HLN.out] at hq
  have k2 := hw.c2
  have k1 := hw.c1
  have h0 := fun V hV => hN V (lefts b ps) (n - lefts b ps) 0 hV (Nat.le_refl _) (Nat.le_refl _) (by omega)
  have h1 := fun V hV => hN V (lefts b ps) (n - lefts b ps) 1 hV (Nat.le_refl _) (Nat.le_refl _) (by omega)
  have HV : Hid (valueE b ps num = lessE (num (lefts b ps) (n - lefts b ps) 0) (num (lefts b ps) (n - lefts b ps) 1)) := Lib.hid (by unfold valueE; rw [HLN.out])
  clear hN
  obtain ⟨q, HQ⟩ : ∃ q, Hid (lefts b ps = q) := ⟨_, Lib.hid rfl⟩
  rw [HQ.out] at hq k2 h0 h1 HV
  obtain ⟨r, HR⟩ : ∃ r, Hid (n - q = r) := ⟨_, Lib.hid rfl⟩
  have hwr : IntKind.i64.wrap ((n : Int) - (q : Int)) = (r : Int) := by rw [IntWalk.i64_in _ (by omega)]; have := HR.out; omega
  rw [HR.out] at h0 h1 HV
  obtain ⟨m0, HM0⟩ : ∃ m, Hid (num q r 0 = m) := ⟨_, Lib.hid rfl⟩
  obtain ⟨m1, HM1⟩ : ∃ m, Hid (num q r 1 = m) := ⟨_, Lib.hid rfl⟩
  rw [HM0.out] at h0 HV
  rw [HM1.out] at h1 HV
  have H0 := Lib.hid h0
  have H1 := Lib.hid h1
  clear h0 h1
  have hmix : Try.prog.follows .mixedOrders = true := by kernel_rfl
  go_enter Try.func82, Try.ntmps82
  go_wp2
  refine wp_region_lastL (fun V => V.cell? ⟨g, 2, none⟩ = some (.int .i64 (q : Int)) ∧ V.cell? ⟨g, 1, none⟩ = some (.slice A n c)) hmix rfl (by kernel_rfl) ⟨k2, k1⟩ (fun hS => ?_)
  simp only [List.dropLast_cons_cons, List.dropLast_singleton, List.length_cons, List.length_nil, Nat.reduceAdd]
  refine wpAnyH_take (i := 0) (v := ?_) rfl (by kernel_rfl) (by kernel_rfl) (by kernel_rfl) (fun _ _ _ h => h) (Or.inl ⟨by rfl, ?_⟩) hS ?_
  rotate_left
  · intro w hSw
    (try dsimp only at hSw)
    go_simp
    (try with_reducible rfl)
  try simp (maxSteps := 10000000) only [Act.put, List.setIfInBounds_toArray, List.set_cons_zero, List.set_cons_succ, List.getElem_toArray, List.getElem_cons_zero]
  refine wpAnyH_take (i := 1) (v := ?_) rfl (by kernel_rfl) (by kernel_rfl) (by kernel_rfl) (fun _ _ _ h => h) (Or.inl ⟨by rfl, ?_⟩) hS ?_
  rotate_left
  · intro w hSw
    (try dsimp only at hSw)
    go_simp
    (try with_reducible rfl)
  try simp (maxSteps := 10000000) only [Act.put, List.setIfInBounds_toArray, List.set_cons_zero, List.set_cons_succ, List.getElem_toArray, List.getElem_cons_zero, List.getElem_cons_succ]
  refine wpAnyH_take (i := 2) (v := ?_) rfl (by kernel_rfl) (by kernel_rfl) (by kernel_rfl) (fun _ _ _ h => h) (Or.inl ⟨by rfl, ?_⟩) hS ?_
  rotate_left
  · intro w hSw
    (try dsimp only at hSw)
    go_simp
    (try with_reducible rfl)
  try simp (maxSteps := 10000000) only [Act.put, List.setIfInBounds_toArray, List.set_cons_zero, List.set_cons_succ, List.getElem_toArray, List.getElem_cons_zero, List.getElem_cons_succ]
  refine wpAnyH_take (i := 3) (v := ?_) rfl (by kernel_rfl) (by kernel_rfl) (by kernel_rfl) (fun _ _ _ h => h) (Or.inl ⟨by rfl, ?_⟩) hS ?_
  rotate_left
  · intro w hSw
    (try dsimp only at hSw)
    go_simp
    (try with_reducible rfl)
  try simp (maxSteps := 10000000) only [Act.put, List.setIfInBounds_toArray, List.set_cons_zero, List.set_cons_succ, List.getElem_toArray, List.getElem_cons_zero, List.getElem_cons_succ]
  refine wpAnyH_take (i := 4) (v := ?_) rfl (by kernel_rfl) (by kernel_rfl) (by kernel_rfl) (fun _ _ _ h => h) (Or.inl ⟨by rfl, ?_⟩) hS ?_
  rotate_left
  · intro w hSw
    (try dsimp only at hSw)
    go_simp
    (try with_reducible rfl)
  try simp (maxSteps := 10000000) only [Act.put, List.setIfInBounds_toArray, List.set_cons_zero, List.set_cons_succ, List.getElem_toArray, List.getElem_cons_zero, List.getElem_cons_succ]
  refine wpAnyH_take (i := 5) (v := ?_) rfl (by kernel_rfl) (by kernel_rfl) (by kernel_rfl) (fun _ _ _ h => h) (Or.inl ⟨by rfl, ?_⟩) hS ?_
  rotate_left
  · intro w hSw
    (try dsimp only at hSw)
    go_simp
    (try with_reducible rfl)
  try simp (maxSteps := 10000000) only [Act.put, List.setIfInBounds_toArray, List.set_cons_zero, List.set_cons_succ, List.getElem_toArray, List.getElem_cons_zero, List.getElem_cons_succ]
  refine wpAnyH_take (i := 6) (v := ?_) rfl (by kernel_rfl) (by kernel_rfl) (by kernel_rfl) (fun _ _ _ h => h) (Or.inl ⟨by rfl, ?_⟩) hS ?_
  rotate_left
  · intro w hSw
    (try dsimp only at hSw)
    go_simp
    (try with_reducible rfl)
  try simp (maxSteps := 10000000) only [Act.put, List.setIfInBounds_toArray, List.set_cons_zero, List.set_cons_succ, List.getElem_toArray, List.getElem_cons_zero, List.getElem_cons_succ]
  refine wpAnyH_take (i := 7) (v := ?_) rfl (by kernel_rfl) (by kernel_rfl) (by kernel_rfl) (fun _ _ _ h => h) (Or.inl ⟨by rfl, ?_⟩) hS ?_
  rotate_left
  · intro w hSw
    (try dsimp only at hSw)
    go_simp
    (try with_reducible rfl)
  try simp (maxSteps := 10000000) only [Act.put, List.setIfInBounds_toArray, List.set_cons_zero, List.set_cons_succ, List.getElem_toArray, List.getElem_cons_zero, List.getElem_cons_succ]
  refine wpAnyH_take (i := 8) (v := ?_) rfl (by kernel_rfl) (by kernel_rfl) (by kernel_rfl) (fun _ _ _ h => h) (Or.inl ⟨by rfl, ?_⟩) hS ?_
  rotate_left
  · intro w hSw
    (try dsimp only at hSw)
    go_simp
    (try with_reducible rfl)
  try simp (maxSteps := 10000000) only [Act.put, List.setIfInBounds_toArray, List.set_cons_zero, List.set_cons_succ, List.getElem_toArray, List.getElem_cons_zero, List.getElem_cons_succ]
  refine wpAnyH_take (i := 9) (v := ?_) rfl (by kernel_rfl) (by kernel_rfl) (by kernel_rfl) (fun _ _ _ h => h) (Or.inl ⟨by rfl, ?_⟩) hS ?_
  rotate_left
  · intro w hSw
    (try dsimp only at hSw)
    go_simp
    (try with_reducible rfl)
  try simp (maxSteps := 10000000) only [Act.put, List.setIfInBounds_toArray, List.set_cons_zero, List.set_cons_succ, List.getElem_toArray, List.getElem_cons_zero, List.getElem_cons_succ]
  refine wpAnyH_take (i := 10) (v := ?_) rfl (by kernel_rfl) (by kernel_rfl) (by kernel_rfl) (fun _ _ _ h => h) (Or.inl ⟨by rfl, ?_⟩) hS ?_
  rotate_left
  · intro w hSw
    (try dsimp only at hSw)
    go_simp
    (try with_reducible rfl)
  try simp (maxSteps := 10000000) only [Act.put, List.setIfInBounds_toArray, List.set_cons_zero, List.set_cons_succ, List.getElem_toArray, List.getElem_cons_zero, List.getElem_cons_succ]
  refine wpAnyH_take (i := 11) (v := ?_) rfl (by kernel_rfl) (by kernel_rfl) (by kernel_rfl) (fun _ _ _ h => h) (Or.inl ⟨by rfl, ?_⟩) hS ?_
  rotate_left
  · intro w hSw
    (try dsimp only at hSw)
    go_simp
    (try with_reducible rfl)
  try simp (maxSteps := 10000000) only [Act.put, List.setIfInBounds_toArray, List.set_cons_zero, List.set_cons_succ, List.getElem_toArray, List.getElem_cons_zero, List.getElem_cons_succ]
  refine wpAnyH_take (i := 12) (v := ?_) rfl (by kernel_rfl) (by kernel_rfl) (by kernel_rfl) (fun _ _ _ h => h) (Or.inl ⟨by rfl, ?_⟩) hS ?_
  rotate_left
  · intro w hSw
    (try dsimp only at hSw)
    go_simp
    (try with_reducible rfl)
  try simp (maxSteps := 10000000) only [Act.put, List.setIfInBounds_toArray, List.set_cons_zero, List.set_cons_succ, List.getElem_toArray, List.getElem_cons_zero, List.getElem_cons_succ]
  refine wpAnyH_take (i := 13) (v := ?_) rfl (by kernel_rfl) (by kernel_rfl) (by kernel_rfl) (fun _ _ _ h => h) (Or.inl ⟨by rfl, ?_⟩) hS ?_
  rotate_left
  · intro w hSw
    (try dsimp only at hSw)
    go_simp
    (try with_reducible rfl)
  try simp (maxSteps := 10000000) only [Act.put, List.setIfInBounds_toArray, List.set_cons_zero, List.set_cons_succ, List.getElem_toArray, List.getElem_cons_zero, List.getElem_cons_succ]
  refine wpAnyH_take (i := 14) (v := ?_) rfl (by kernel_rfl) (by kernel_rfl) (by kernel_rfl) (fun _ _ _ h => h) (Or.inl ⟨by rfl, ?_⟩) hS ?_
  rotate_left
  · intro w hSw
    (try dsimp only at hSw)
    go_simp
    (try with_reducible rfl)
  try simp (maxSteps := 10000000) only [Act.put, List.setIfInBounds_toArray, List.set_cons_zero, List.set_cons_succ, List.getElem_toArray, List.getElem_cons_zero, List.getElem_cons_succ]
  refine wpAnyH_take (i := 15) (v := ?_) rfl (by kernel_rfl) (by kernel_rfl) (by kernel_rfl) (fun _ _ _ h => h) (Or.inl ⟨by rfl, ?_⟩) hS ?_
  rotate_left
  · intro w hSw
    (try dsimp only at hSw)
    go_simp
    (try with_reducible rfl)
  try simp (maxSteps := 10000000) only [Act.put, List.setIfInBounds_toArray, List.set_cons_zero, List.set_cons_succ, List.getElem_toArray, List.getElem_cons_zero, List.getElem_cons_succ]
  refine wpAnyH_ready (rs := [16]) (by kernel_rfl) (by simp) ?_
  refine AllReadyH.cons rfl (fun K hK => ?_) AllReadyH.nil
  go_simp
  refine hK.out _ _ ⟨cell_old _ k2, cell_old _ k1⟩ (fun hS => ?_)
  clear hK K
  try simp (maxSteps := 10000000) only [Act.put, List.setIfInBounds_toArray, List.set_cons_zero, List.set_cons_succ, List.getElem_toArray, List.getElem_cons_zero, List.getElem_cons_succ]
  refine wpAnyH_done (by kernel_rfl) ?_ _
  unfold lastQ
  go_simp
  have hb1 : Below w.heap.size w (w.alloc (.cells #[.int .i64 (q : Int), .int .i64 (r : Int), .int .i64 0] 107)).drew := below_drewN ((Below.refl _ w).alloc (Nat.le_refl _) _) 1
  have hbk : Bk (w.alloc (.cells #[.int .i64 (q : Int), .int .i64 (r : Int), .int .i64 0] 107)).drew w.heap.size 107 #[.int .i64 (q : Int), .int .i64 (r : Int), .int .i64 0] := Bk.new w _ _
  have a0 := hbk.cell 0
  have a1 := hbk.cell 1
  have a2 := hbk.cell 2
  clear hS
  go_wp2_with fail
  refine (H0.out _ hb1).mono ?_
  rintro v w2 ⟨rfl, hb2⟩
  have hbk2 := hbk.below hb2 hbk.lt
  have hb3 := hb1.trans (hb2.mono hb1.size)
  have hb4 := hb3.setCell (p := ⟨w.heap.size, 2, none⟩) (Nat.le_refl _) (.int .i64 1)
  have hbk3 := hbk2.set_ 2 (.int .i64 1)
  have e2 := hbk2.cell 2
  have ef := hbk2.frozen 2
  have b0 := hbk3.cell 0
  have b1 := hbk3.cell 1
  have b2 := hbk3.cell 2
  clear a0 a1 a2
  go_wp2_with fail
  refine (H1.out _ hb4).mono ?_
  rintro v w3 ⟨rfl, hb5⟩
  have hb6 := hb4.trans (hb5.mono hb4.size)
  clear e2 ef b0 b1 b2
  by_cases c0 : m0 < 0
  · have HE : Hid (valueS b ps num = if m1 < 0 then (0, 12) else (m1, 0)) := Lib.hid (by
      unfold valueS
      rw [HV.out]
      by_cases c1 : m1 < 0
      · rw [show lessE m0 m1 = m0 from by unfold lessE; rw [if_pos c1], if_pos c0, if_pos c1]
      · rw [show lessE m0 m1 = m1 from by unfold lessE; rw [if_neg c1, if_pos (by omega)], if_neg c1])
    by_cases c1 : m1 < 0
    · have HE2 : Hid (valueS b ps num = (0, 12)) := Lib.hid (by rw [HE.out, if_pos c1])
      go_wp2
      go_ret2
      exact ⟨by rw [HE2.out]; rfl, hb6⟩
    · have HE2 : Hid (valueS b ps num = (m1, 0)) := Lib.hid (by rw [HE.out, if_neg c1])
      go_wp2
      go_ret2
      exact ⟨by rw [HE2.out]; rfl, hb6⟩
  · have hd0 : decide (m0 < 0) = false := by simp; omega
    by_cases c1 : m1 < 0
    · have hd1 : decide (0 ≤ m1) = false := by simp; omega
      have HE2 : Hid (valueS b ps num = (m0, 0)) := Lib.hid (by unfold valueS; rw [HV.out, show lessE m0 m1 = m0 from by unfold lessE; rw [if_pos c1], if_neg c0])
      have c1' : ¬ 0 ≤ m1 := by omega
      go_wp2
      go_ret2
      exact ⟨by rw [HE2.out]; rfl, hb6⟩
    · have c1' : 0 ≤ m1 := by omega
      by_cases c2 : m1 < m0
      · have HE2 : Hid (valueS b ps num = (m1, 0)) := Lib.hid (by unfold valueS; rw [HV.out, show lessE m0 m1 = m1 from by unfold lessE; rw [if_neg c1, if_pos (by omega)], if_neg c1])
        go_wp2
        go_ret2
        exact ⟨by rw [HE2.out]; rfl, hb6⟩
      · have HE2 : Hid (valueS b ps num = (m0, 0)) := Lib.hid (by unfold valueS; rw [HV.out, show lessE m0 m1 = m0 from by unfold lessE; rw [if_neg c1, if_neg (by omega)], if_neg c0])
        go_wp2
        go_ret2
        exact ⟨by rw [HE2.out]; rfl, hb6⟩
end Go.Proofs.Ytaekjnjignlmoaa
