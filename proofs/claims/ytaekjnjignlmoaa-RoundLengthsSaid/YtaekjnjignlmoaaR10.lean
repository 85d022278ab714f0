/-
  The reference: 'Shortest'. Printed by gen_r9.py.
-/
import Derived.Test.YtaekjnjignlmoaaR9
namespace Go.Proofs.Ytaekjnjignlmoaa
open Go.RowKit Go.Shelf

theorem shortest_cases {b : Int} {ps : List (Int × Int)} {v : List Nat × Int × Int} (h : shortestS b ps = v) : (v.2.2 ≠ 0 → v.2.1 = 0) ∧ (v.2.2 = 0 → checkPier b ps = 0 ∧ goodR b ps ≠ [] ∧ v.1 = roundOf b ps ∧ v.2.1 = lenR b ps (roundOf b ps)) := by
  subst h
  unfold shortestS
  by_cases h0 : checkPier b ps = 0
  · rw [if_pos h0]
    by_cases h1 : goodR b ps = []
    · rw [if_pos h1]
      exact ⟨fun _ => rfl, fun h => absurd h (by show ¬ (12 : Int) = 0; omega)⟩
    · rw [if_neg h1]
      exact ⟨fun h => absurd rfl h, fun _ => ⟨h0, h1, rfl, rfl⟩⟩
  · rw [if_neg h0]
    exact ⟨fun _ => rfl, fun h => absurd h h0⟩
set_option maxRecDepth 100000 in
set_option maxHeartbeats 4000000 in
theorem rShortest (b : Int) (A : Option Addr) (n c : Nat) (ps : List (Int × Int)) (w : World) (h_p : Rp w w.heap.size A n ps) (hn : n ≤ 1048576) (v : List Nat × Int × Int) (HV : Hid (shortestS b ps = v)) :
    Calls Try.prog 25 #[.agg #[.int .i64 b, .slice A n c]] w (RetII w v.2.1 v.2.2) := by
  have HL := Lib.hid h_p.len
  have HS0 := shortest_cases HV.out
  obtain ⟨v1, v2, v3⟩ := v
  have HS : Hid ((v3 ≠ 0 → v2 = 0) ∧ (v3 = 0 → checkPier b ps = 0 ∧ goodR b ps ≠ [] ∧ v1 = roundOf b ps ∧ v2 = lenR b ps (roundOf b ps))) := Lib.hid HS0
  clear HS0
  have hmix : Try.prog.follows .mixedOrders = true := by kernel_rfl
  have k1 := Bk.new w 24 #[.int .i64 b, .slice A n c]
  have hb : Below w.heap.size w (w.alloc (.cells #[.int .i64 b, .slice A n c] 24)) := (Below.refl _ _).alloc (Nat.le_refl _) _
  have q0 := k1.cell 0
  have q1 := k1.cell 1
  go_enter Try.func25, Try.ntmps25
  go_wp2_with fail
  clear q0 q1
  obtain ⟨u1, hu⟩ : ∃ k, w.heap.size = k := ⟨_, rfl⟩
  obtain ⟨w1, hW⟩ : ∃ W, w.alloc (.cells #[.int .i64 b, .slice A n c] 24) = W := ⟨_, rfl⟩
  rw [hW] at k1 hb ⊢
  rw [hu] at k1 ⊢
  clear hW
  have HU := Lib.hid hu
  clear hu
  have Bw1 : Below w.heap.size w w1 := hb
  replace h_p := h_p.next hb (Nat.le_refl _) hb.size
  clear hb
  refine (rRound b A n c ps _ h_p hn (v1, v2, v3) HV).mono ?_
  rintro e w2 ⟨Al, nl, cl, rfl, ho, hb⟩
  have Bw2 : Below w.heap.size w w2 := Bw1.trans (hb.mono Bw1.size)
  replace h_p := h_p.next hb (Nat.le_refl _) hb.size
  replace k1 := k1.below hb k1.lt
  clear Bw1
  clear hb
  have h_l := ho.ri
  clear ho
  dsimp only at h_l ⊢
  by_cases hq : v3 = 0
  rotate_left
  · have hqb : (v3 != 0) = true := by simp [hq]
    have HV1 : Hid (v2 = 0) := Lib.hid (HS.out.1 hq)
    clear hq
    go_wp2
    go_ret2
    exact ⟨by rw [HV1.out]; rfl, Bw2⟩
  obtain ⟨k1', k2', k3', k4'⟩ := HS.out.2 hq
  have HP : Hid (Pier b ps) := Lib.hid (checkPier_ok.1 k1')
  have HAl : Hid (v1 ∈ allR b ps) := Lib.hid (by rw [k3']; exact (mem_goodR.1 (round_good k2')).1)
  have HLN : Hid (lenR b ps v1 = v2) := Lib.hid (by rw [k3', k4'])
  have hqb : (v3 != 0) = false := by simp [hq]
  have hnl : nl = n := by
    have h1 := h_l.len
    rw [ofN_length, (allR_iff.1 HAl.out).1, HL.out] at h1
    exact h1.symm
  have HQ0 := Lib.hid hq
  have HNL := Lib.hid hnl
  clear hq k1' k2' k3' k4' hnl
  have d_k1_0 := k1.cell 0
  have d_k1_1 := k1.cell 1
  go_wp2_with fail
  clear d_k1_0 d_k1_1
  refine (rLengthOf b A n c ps _ nl cl v1 _ h_p HP h_l HNL.out HAl v2 HLN).mono ?_
  rintro e w3 ⟨rfl, hb⟩
  have Bw3 : Below w.heap.size w w3 := Bw2.trans (hb.mono Bw2.size)
  replace h_p := h_p.next hb (Nat.le_refl _) hb.size
  replace k1 := k1.below hb k1.lt
  replace h_l := h_l.next hb (Nat.le_refl _) hb.size
  clear Bw2
  clear hb
  go_wp2
  go_ret2
  exact ⟨by rw [HQ0.out]; rfl, Bw3⟩
end Go.Proofs.Ytaekjnjignlmoaa
