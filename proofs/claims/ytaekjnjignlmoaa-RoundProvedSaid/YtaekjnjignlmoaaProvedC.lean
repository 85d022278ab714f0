/-
  A part of RoundProved: the own round is in time, and the given bounds are not right.
-/
import Derived.Test.YtaekjnjignlmoaaWorks
import Derived.Test.YtaekjnjignlmoaaRowP
import Derived.Test.YtaekjnjignlmoaaWl
import Derived.Test.YtaekjnjignlmoaaWk
import Derived.Test.YtaekjnjignlmoaaR4
import Derived.Test.YtaekjnjignlmoaaRowB
import Derived.Test.YtaekjnjignlmoaaPth
namespace Go.Proofs.Ytaekjnjignlmoaa
open Go.Shelf Go.ChangeShapes Go.WideShapes Go.ChangeAt Go.RowKit

theorem last_atC {b : Int} {ps : List (Int × Int)} (hp : Pier b ps) {l : List Nat} (h : l ∈ allR b ps) {n nm : Nat} (hn : ps.length = n) (hm : n = nm + 1) : ∃ i : Nat, Hid (l[nm]? = some i) ∧ i < n ∧ Hid (lastOf l = i) := by
  obtain ⟨h1, h2⟩ := lastOf_lt hp h
  have hl := (allR_iff.1 h).1
  refine ⟨lastOf l, Lib.hid ?_, by omega, Lib.hid rfl⟩
  unfold lastOf
  rw [List.getLast?_eq_getElem?, hl, hn, hm, Nat.add_sub_cancel]
  have : nm < l.length := by omega
  rw [List.getElem?_eq_getElem this]
  rfl
set_option maxRecDepth 100000 in
set_option maxHeartbeats 32000000 in
theorem wProvedC (b : Int) (A : Option Addr) (n c : Nat) (ps : List (Int × Int)) (Y : Option Addr) (my cy : Nat) (bs : List Int) (D : Option Addr) (N dc : Nat) (Rs : List (List (Int × Int))) (w : World) (hx : Rp w w.heap.size A n ps) (hc : n ≤ c) (hy : Ru w w.heap.size Y my bs) (h_b : Bd w w.heap.size D N Rs) (HF : Hid (decide (n ≤ 14 ∧ checkPier b ps = 0) = true)) (hm40 : ¬ 40 < my) (HWD0 : Hid (wideN N Rs = false)) (HIN : Hid (inTimeB b ps (walkedL b ps bs) = true)) (HEB : Hid (¬ (ckBoundsS b ps Rs).2 = 0)) :
    Calls Try.prog 8 #[.agg #[.int .i64 b, .slice A n c], .slice Y my cy, .slice D N dc] w (RetB w true) := by
  have h_p := hx
  have h_y := hy
  have hf := of_decide_eq_true HF.out
  have HP : Hid (Pier b ps) := Lib.hid (checkPier_ok.1 hf.2)
  have HL := Lib.hid hx.len
  have hn1 : 1 ≤ n := by rw [← HL.out]; exact HP.out.lo
  have hn10 : n ≤ 10 := by rw [← HL.out]; exact HP.out.hi
  clear hf
  have hwd := HWD0.out
  have hmix : Try.prog.follows .mixedOrders = true := by kernel_rfl
  have HCP : Hid (checkPier b ps = 0) := Lib.hid (checkPier_ok.2 HP.out)
  obtain ⟨hN14, hL14⟩ := wideN_false hwd
  have HLs : Hid (∀ L ∈ Rs, L.length ≤ 1048576) := Lib.hid (fun L hL => by have := hL14 L hL; omega)
  have HWD := Lib.hid hwd
  clear hL14 hwd
  obtain ⟨nm, HNM⟩ : ∃ k : Nat, Hid (n = k + 1) := ⟨n - 1, Lib.hid (by omega)⟩
  have hnm : nm < n := by have := HNM.out; omega
  have hwn : IntKind.i64.wrap ((n : Int) - 1) = (nm : Int) := by rw [IntWalk.i64_in _ (by omega)]; have := HNM.out; omega
  have HWA : Hid (walkedL b ps bs ∈ allR b ps) := Lib.hid (walked_all b ps bs)
  obtain ⟨own, HOW⟩ : ∃ l, Hid (walkedL b ps bs = l) := ⟨_, Lib.hid rfl⟩
  have HOA : Hid (own ∈ allR b ps) := Lib.hid (HOW.out ▸ HWA.out)
  have HCKW : Hid (checkRoundS b ps (ofN own) = if inTimeB b ps own = true then ((stepsL b ps own).take ps.length, 0) else ([], 12)) := Lib.hid (ckRound_all HP.out HOA.out)
  obtain ⟨Qs, HQS⟩ : ∃ Q, Hid (boundsS b ps = Q) := ⟨_, Lib.hid rfl⟩
  have HMV0 : Hid (ckBoundsS b ps Qs = if goodR b ps = [] then (0, 12) else (lenR b ps (roundOf b ps), 0)) := Lib.hid (HQS.out ▸ bounds_value HP.out)
  obtain ⟨vb, eb, HCB⟩ : ∃ x y, Hid (ckBoundsS b ps Rs = (x, y)) := ⟨_, _, Lib.hid rfl⟩
  have hin : inTimeB b ps own = true := by rw [← HOW.out]; exact HIN.out
  have hg : ¬ goodR b ps = [] := fun h => by
    have h1 := mem_goodR.2 ⟨HOA.out, hin⟩
    rw [h] at h1
    cases h1
  obtain ⟨l, HRO⟩ : ∃ l, Hid (roundOf b ps = l) := ⟨_, Lib.hid rfl⟩
  have HLG : Hid (l ∈ goodR b ps) := Lib.hid (HRO.out ▸ round_good hg)
  obtain ⟨ml, HMLE⟩ : ∃ m, Hid (lenR b ps l = m) := ⟨_, Lib.hid rfl⟩
  have HSR : Hid (shortestS b ps = (l, ml, 0)) := Lib.hid (by unfold shortestS; rw [if_pos HCP.out, if_neg hg, HRO.out, HMLE.out])
  have HMV : Hid (ckBoundsS b ps Qs = (ml, 0)) := Lib.hid (by rw [HMV0.out, if_neg hg, HRO.out, HMLE.out])
  have HLAL := Lib.hid (mem_goodR.1 HLG.out).1
  have HLN : Hid ((ofN l).length = n) := Lib.hid (by rw [ofN_length, (allR_iff.1 HLAL.out).1, HL.out])
  obtain ⟨T, HT⟩ : ∃ T, Hid ((stepsL b ps l).take n = T) := ⟨_, Lib.hid rfl⟩
  have HCL : Hid (checkRoundS b ps (ofN l) = (T, 0)) := Lib.hid (by rw [← HT.out, ← HL.out]; exact ckRound_good HP.out HLG.out)
  have HTL : Hid (T.length = n) := Lib.hid (by
    obtain ⟨s, hs, hkk, _⟩ := full_round HP.out HLAL.out
    rw [← HT.out, stepsL_some hs, List.length_take, hkk.out]
    omega)
  obtain ⟨lr0, HLR, hlrn, HLRE⟩ := last_atC HP.out HLAL.out HL.out HNM.out
  have HML : Hid (nth T lr0 = ml) := Lib.hid (by
    rw [← HT.out, nth_take hlrn, ← HMLE.out]
    unfold lenR
    rw [HLRE.out])
  have HBEST : Hid (∀ y ∈ goodR b ps, ml ≤ lenR b ps y) := Lib.hid (fun y hy => by
    have := (firstBest_mem (f := lenR b ps) hg).2 y hy
    rw [← HMLE.out, ← HRO.out]
    exact this)
  clear hg
  obtain ⟨S, HSS⟩ : ∃ S, Hid ((stepsL b ps own).take n = S) := ⟨_, Lib.hid rfl⟩
  have HWG : Hid (own ∈ goodR b ps) := Lib.hid (mem_goodR.2 ⟨HOA.out, hin⟩)
  have HCK : Hid (checkRoundS b ps (ofN own) = (S, 0)) := Lib.hid (by rw [HCKW.out, if_pos hin, HL.out, HSS.out])
  have HSL : Hid (S.length = n) := Lib.hid (by
    obtain ⟨s, hs, hkk, _⟩ := full_round HP.out HOA.out
    rw [← HSS.out, stepsL_some hs, List.length_take, hkk.out]
    omega)
  obtain ⟨lo0, HLO, hlon, HLOE⟩ := last_atC HP.out HOA.out HL.out HNM.out
  obtain ⟨x1, HX1E⟩ : ∃ x, Hid (lenR b ps own = x) := ⟨_, Lib.hid rfl⟩
  have HX1 : Hid (nth S lo0 = x1) := Lib.hid (by
    rw [← HSS.out, nth_take hlon, ← HX1E.out]
    unfold lenR
    rw [HLOE.out])
  have hml1 : decide (ml ≤ x1) = true := decide_eq_true (by rw [← HX1E.out]; exact HBEST.out own HWG.out)
  have HBP := Lib.hid (bounds_prove HP.out Rs HWG.out)
  have hbp := HBP.out
  rw [HCB.out] at hbp
  dsimp only at hbp
  have heb12 : (eb == 12) = false := by simp; exact hbp.1
  clear hin
  have heb := HEB.out
  rw [HCB.out] at heb
  dsimp only at heb
  have heb0 : (eb == 0) = false := by simp; exact heb
  clear hbp heb
  have k1 := Bk.new w 24 #[.int .i64 b, .slice A n c]
  have hb : Below w.heap.size w (w.alloc (.cells #[.int .i64 b, .slice A n c] 24)) := (Below.refl _ _).alloc (Nat.le_refl _) _
  have d0 := k1.cell 0
  have d1 := k1.cell 1
  go_enter Try.func8, Try.ntmps8
  go_wp2_with fail
  clear d0 d1
  obtain ⟨u1, hu⟩ : ∃ k, w.heap.size = k := ⟨_, rfl⟩
  obtain ⟨w1, hW⟩ : ∃ W, w.alloc (.cells #[.int .i64 b, .slice A n c] 24) = W := ⟨_, rfl⟩
  rw [hW] at k1 hb ⊢
  rw [hu] at k1 ⊢
  clear hW hu
  have Bw1 : Below w.heap.size w w1 := hb
  replace h_y := h_y.next hb (Nat.le_refl _) hb.size
  replace h_b := h_b.next hb (Nat.le_refl _) hb.size
  replace h_p := h_p.next hb (Nat.le_refl _) hb.size
  clear hb
  refine (aFine b A n c ps _ h_p _ HF).mono ?_
  rintro e w2 ⟨rfl, hb⟩
  have Bw2 : Below w.heap.size w w2 := Bw1.trans (hb.mono Bw1.size)
  replace h_y := h_y.next hb (Nat.le_refl _) hb.size
  replace h_b := h_b.next hb (Nat.le_refl _) hb.size
  replace h_p := h_p.next hb (Nat.le_refl _) hb.size
  replace k1 := k1.below hb k1.lt
  clear Bw1
  clear hb
  have d_k1_0 := k1.cell 0
  have d_k1_1 := k1.cell 1
  go_wp2_with fail
  clear d_k1_0 d_k1_1
  refine (aWideT D N dc Rs _ h_b false HWD).mono ?_
  rintro e w3 ⟨rfl, hb⟩
  have Bw3 : Below w.heap.size w w3 := Bw2.trans (hb.mono Bw2.size)
  replace h_y := h_y.next hb (Nat.le_refl _) hb.size
  replace h_b := h_b.next hb (Nat.le_refl _) hb.size
  replace h_p := h_p.next hb (Nat.le_refl _) hb.size
  replace k1 := k1.below hb k1.lt
  clear Bw2
  clear hb
  have d_k1_0 := k1.cell 0
  have d_k1_1 := k1.cell 1
  go_wp2_with fail
  clear d_k1_0 d_k1_1
  refine (aWalked b A n c ps Y my cy bs _ h_p HP h_y (by omega)).mono ?_
  rintro e w4 ⟨Aw, cw, rfl, ho, hcw, hb⟩
  have Bw4 : Below w.heap.size w w4 := Bw3.trans (hb.mono Bw3.size)
  replace h_y := h_y.next hb (Nat.le_refl _) hb.size
  replace h_b := h_b.next hb (Nat.le_refl _) hb.size
  replace h_p := h_p.next hb (Nat.le_refl _) hb.size
  replace k1 := k1.below hb k1.lt
  clear Bw3
  clear hb
  have h_w := ho.ri
  clear ho
  rw [HOW.out] at h_w
  have d_k1_0 := k1.cell 0
  have d_k1_1 := k1.cell 1
  go_wp2_with fail
  clear d_k1_0 d_k1_1
  refine (fCkRound b A n c ps _ n cw (ofN own) _ h_p (by omega) hc h_w (by omega) hcw (S, 0) HCK).mono ?_
  rintro e w5 ⟨As, ns, cs, rfl, ho, hb⟩
  have Bw5 : Below w.heap.size w w5 := Bw4.trans (hb.mono Bw4.size)
  replace h_y := h_y.next hb (Nat.le_refl _) hb.size
  replace h_b := h_b.next hb (Nat.le_refl _) hb.size
  replace h_p := h_p.next hb (Nat.le_refl _) hb.size
  replace k1 := k1.below hb k1.lt
  replace h_w := h_w.next hb (Nat.le_refl _) hb.size
  clear Bw4
  clear hb
  have h_s := ho.ri
  clear ho
  have d_k1_0 := k1.cell 0
  have d_k1_1 := k1.cell 1
  go_wp2_with fail
  clear d_k1_0 d_k1_1
  refine (fCkBoundsT b A n c ps D N dc Rs _ h_p (by omega) hc h_b (by omega) HLs (vb, eb) HCB).mono ?_
  rintro e w6 ⟨rfl, hb⟩
  have Bw6 : Below w.heap.size w w6 := Bw5.trans (hb.mono Bw5.size)
  replace h_y := h_y.next hb (Nat.le_refl _) hb.size
  replace h_b := h_b.next hb (Nat.le_refl _) hb.size
  replace h_p := h_p.next hb (Nat.le_refl _) hb.size
  replace k1 := k1.below hb k1.lt
  replace h_w := h_w.next hb (Nat.le_refl _) hb.size
  replace h_s := h_s.next hb (Nat.le_refl _) hb.size
  clear Bw5
  clear hb
  clear h_b
  have hnsn : n = ns := HSL.out.symm.trans h_s.len
  subst hnsn
  obtain ⟨aw, xw, rfl, _, cw0, hxw, _⟩ := h_w.at_ hnm
  obtain ⟨lo, hlo0, rfl⟩ := ofN_at hxw.out
  have hlo1 : lo = lo0 := by
    have h1 := HLO.out
    rw [hlo0] at h1
    exact Option.some.inj h1
  subst hlo1
  clear hlo0 hxw
  obtain ⟨aS, xs1, rfl, _, cs0, hxs, _⟩ := h_s.at_ hlon
  have hxe : xs1 = x1 := by
    have h1 := nth_some hxs.out
    rw [HX1.out] at h1
    exact h1.symm
  subst hxe
  clear hxs
  have d_k1_0 := k1.cell 0
  have d_k1_1 := k1.cell 1
  go_wp2_with fail
  clear d_k1_0 d_k1_1
  refine (fRound b A n c ps _ h_p (by omega) hc (l, ml, 0) HSR).mono ?_
  rintro e w7 ⟨Al, nl, cl, rfl, ho, hb⟩
  have Bw7 : Below w.heap.size w w7 := Bw6.trans (hb.mono Bw6.size)
  replace h_y := h_y.next hb (Nat.le_refl _) hb.size
  replace h_p := h_p.next hb (Nat.le_refl _) hb.size
  replace k1 := k1.below hb k1.lt
  replace h_w := h_w.next hb (Nat.le_refl _) hb.size
  replace h_s := h_s.next hb (Nat.le_refl _) hb.size
  replace cw0 := (hb.cell (World.block_lt_of_cell? _ _ cw0)).trans cw0
  replace cs0 := (hb.cell (World.block_lt_of_cell? _ _ cs0)).trans cs0
  clear Bw6
  clear hb
  have hcl := ho.cap
  have h_l := ho.ri
  clear ho
  dsimp only at h_l ⊢
  have d_k1_0 := k1.cell 0
  have d_k1_1 := k1.cell 1
  go_wp2_with fail
  clear d_k1_0 d_k1_1
  refine (fBoundsT b A n c ps _ h_p (by omega) hc 0 HCP Qs HQS).mono ?_
  rintro e w8 ⟨D2, N2, d2, rfl, hbd, _, hb⟩
  have Bw8 : Below w.heap.size w w8 := Bw7.trans (hb.mono Bw7.size)
  replace h_y := h_y.next hb (Nat.le_refl _) hb.size
  replace h_p := h_p.next hb (Nat.le_refl _) hb.size
  replace k1 := k1.below hb k1.lt
  replace h_w := h_w.next hb (Nat.le_refl _) hb.size
  replace h_s := h_s.next hb (Nat.le_refl _) hb.size
  replace cw0 := (hb.cell (World.block_lt_of_cell? _ _ cw0)).trans cw0
  replace cs0 := (hb.cell (World.block_lt_of_cell? _ _ cs0)).trans cs0
  replace h_l := h_l.next hb (Nat.le_refl _) hb.size
  clear Bw7
  clear hb
  have h_q := hbd
  clear hbd
  obtain ⟨hN2, hq11, hqw⟩ := bounds_small HP.out (N := N2) (by rw [HQS.out]; exact h_q.len)
  rw [HQS.out] at hq11 hqw
  have HQ11 : Hid (∀ L ∈ Qs, L.length ≤ 1048576) := Lib.hid (fun L hL => by have := hq11 L hL; omega)
  have HQW := Lib.hid hqw
  clear hq11 hqw
  have d_k1_0 := k1.cell 0
  have d_k1_1 := k1.cell 1
  go_wp2_with fail
  clear d_k1_0 d_k1_1
  refine (aWideT D2 N2 d2 Qs _ h_q false HQW).mono ?_
  rintro e w9 ⟨rfl, hb⟩
  have Bw9 : Below w.heap.size w w9 := Bw8.trans (hb.mono Bw8.size)
  replace h_y := h_y.next hb (Nat.le_refl _) hb.size
  replace h_p := h_p.next hb (Nat.le_refl _) hb.size
  replace k1 := k1.below hb k1.lt
  replace h_w := h_w.next hb (Nat.le_refl _) hb.size
  replace h_s := h_s.next hb (Nat.le_refl _) hb.size
  replace cw0 := (hb.cell (World.block_lt_of_cell? _ _ cw0)).trans cw0
  replace cs0 := (hb.cell (World.block_lt_of_cell? _ _ cs0)).trans cs0
  replace h_l := h_l.next hb (Nat.le_refl _) hb.size
  replace h_q := h_q.next hb (Nat.le_refl _) hb.size
  clear Bw8
  clear hb
  have d_k1_0 := k1.cell 0
  have d_k1_1 := k1.cell 1
  go_wp2_with fail
  clear d_k1_0 d_k1_1
  refine (fCkBoundsT b A n c ps D2 N2 d2 Qs _ h_p (by omega) hc h_q (by omega) HQ11 (ml, 0) HMV).mono ?_
  rintro e w10 ⟨rfl, hb⟩
  have Bw10 : Below w.heap.size w w10 := Bw9.trans (hb.mono Bw9.size)
  replace h_y := h_y.next hb (Nat.le_refl _) hb.size
  replace h_p := h_p.next hb (Nat.le_refl _) hb.size
  replace k1 := k1.below hb k1.lt
  replace h_w := h_w.next hb (Nat.le_refl _) hb.size
  replace h_s := h_s.next hb (Nat.le_refl _) hb.size
  replace cw0 := (hb.cell (World.block_lt_of_cell? _ _ cw0)).trans cw0
  replace cs0 := (hb.cell (World.block_lt_of_cell? _ _ cs0)).trans cs0
  replace h_l := h_l.next hb (Nat.le_refl _) hb.size
  replace h_q := h_q.next hb (Nat.le_refl _) hb.size
  clear Bw9
  clear hb
  have d_k1_0 := k1.cell 0
  have d_k1_1 := k1.cell 1
  go_wp2_with fail
  clear d_k1_0 d_k1_1
  refine (rCheckBounds b A n c ps _ h_p (by omega) D2 N2 d2 Qs h_q (by omega) HQ11 (ml, 0) HMV).mono ?_
  rintro e w11 ⟨rfl, hb⟩
  have Bw11 : Below w.heap.size w w11 := Bw10.trans (hb.mono Bw10.size)
  replace h_y := h_y.next hb (Nat.le_refl _) hb.size
  replace h_p := h_p.next hb (Nat.le_refl _) hb.size
  replace k1 := k1.below hb k1.lt
  replace h_w := h_w.next hb (Nat.le_refl _) hb.size
  replace h_s := h_s.next hb (Nat.le_refl _) hb.size
  replace cw0 := (hb.cell (World.block_lt_of_cell? _ _ cw0)).trans cw0
  replace cs0 := (hb.cell (World.block_lt_of_cell? _ _ cs0)).trans cs0
  replace h_l := h_l.next hb (Nat.le_refl _) hb.size
  replace h_q := h_q.next hb (Nat.le_refl _) hb.size
  clear Bw10
  clear hb
  clear h_q
  have hln : n = nl := HLN.out.symm.trans h_l.len
  subst hln
  have d_k1_0 := k1.cell 0
  have d_k1_1 := k1.cell 1
  go_wp2_with fail
  clear d_k1_0 d_k1_1
  refine (fCkRound b A _ c ps _ _ cl (ofN l) _ h_p (by omega) hc h_l (by omega) hcl (T, 0) HCL).mono ?_
  rintro e w12 ⟨At, nt, ct, rfl, ho, hb⟩
  have Bw12 : Below w.heap.size w w12 := Bw11.trans (hb.mono Bw11.size)
  replace h_y := h_y.next hb (Nat.le_refl _) hb.size
  replace h_p := h_p.next hb (Nat.le_refl _) hb.size
  replace k1 := k1.below hb k1.lt
  replace h_w := h_w.next hb (Nat.le_refl _) hb.size
  replace h_s := h_s.next hb (Nat.le_refl _) hb.size
  replace cw0 := (hb.cell (World.block_lt_of_cell? _ _ cw0)).trans cw0
  replace cs0 := (hb.cell (World.block_lt_of_cell? _ _ cs0)).trans cs0
  replace h_l := h_l.next hb (Nat.le_refl _) hb.size
  clear Bw11
  clear hb
  have h_t := ho.ri
  clear ho
  have d_k1_0 := k1.cell 0
  have d_k1_1 := k1.cell 1
  go_wp2_with fail
  clear d_k1_0 d_k1_1
  refine (rCkRound b A _ c ps _ _ cl (ofN l) _ h_p (by omega) h_l (by omega) hcl (T, 0) HCL).mono ?_
  rintro e w13 ⟨Au, nu, cu, rfl, ho, hb⟩
  have Bw13 : Below w.heap.size w w13 := Bw12.trans (hb.mono Bw12.size)
  replace h_y := h_y.next hb (Nat.le_refl _) hb.size
  replace h_p := h_p.next hb (Nat.le_refl _) hb.size
  replace k1 := k1.below hb k1.lt
  replace h_w := h_w.next hb (Nat.le_refl _) hb.size
  replace h_s := h_s.next hb (Nat.le_refl _) hb.size
  replace cw0 := (hb.cell (World.block_lt_of_cell? _ _ cw0)).trans cw0
  replace cs0 := (hb.cell (World.block_lt_of_cell? _ _ cs0)).trans cs0
  replace h_l := h_l.next hb (Nat.le_refl _) hb.size
  replace h_t := h_t.next hb (Nat.le_refl _) hb.size
  clear Bw12
  clear hb
  have h_u := ho.ri
  clear ho
  have hnt : n = nt := HTL.out.symm.trans h_t.len
  subst hnt
  have hnu : n = nu := HTL.out.symm.trans h_u.len
  subst hnu
  obtain ⟨al, xl, rfl, _, cl0, hxl, _⟩ := h_l.at_ hnm
  obtain ⟨lr, hlr0, rfl⟩ := ofN_at hxl.out
  have hlr1 : lr0 = lr := by
    have h1 := HLR.out
    rw [hlr0] at h1
    exact (Option.some.inj h1).symm
  subst hlr1
  clear hlr0 hxl
  obtain ⟨au, xu, rfl, _, cu0, hxu, _⟩ := h_u.at_ hlrn
  have hxue : xu = ml := by
    have h1 := nth_some hxu.out
    rw [HML.out] at h1
    exact h1.symm
  subst hxue
  clear hxu
  have d_k1_0 := k1.cell 0
  have d_k1_1 := k1.cell 1
  go_wp2_with fail
  clear d_k1_0 d_k1_1
  refine (aLongsT _ _ _ _ _ _ _ _ T T _ h_t h_u (by omega) (by omega) true (Lib.hid (decide_eq_true rfl))).mono ?_
  rintro e w14 ⟨rfl, hb⟩
  have Bw14 : Below w.heap.size w w14 := Bw13.trans (hb.mono Bw13.size)
  replace h_y := h_y.next hb (Nat.le_refl _) hb.size
  replace h_p := h_p.next hb (Nat.le_refl _) hb.size
  replace k1 := k1.below hb k1.lt
  replace h_w := h_w.next hb (Nat.le_refl _) hb.size
  replace h_s := h_s.next hb (Nat.le_refl _) hb.size
  replace cw0 := (hb.cell (World.block_lt_of_cell? _ _ cw0)).trans cw0
  replace cs0 := (hb.cell (World.block_lt_of_cell? _ _ cs0)).trans cs0
  replace h_l := h_l.next hb (Nat.le_refl _) hb.size
  replace h_t := h_t.next hb (Nat.le_refl _) hb.size
  replace h_u := h_u.next hb (Nat.le_refl _) hb.size
  replace cl0 := (hb.cell (World.block_lt_of_cell? _ _ cl0)).trans cl0
  replace cu0 := (hb.cell (World.block_lt_of_cell? _ _ cu0)).trans cu0
  clear Bw13
  clear hb
  have d_k1_0 := k1.cell 0
  have d_k1_1 := k1.cell 1
  go_wp2_with fail
  clear d_k1_0 d_k1_1
  refine (aWorks _).mono ?_
  rintro e w15 ⟨rfl, hb⟩
  have Bw15 : Below w.heap.size w w15 := Bw14.trans (hb.mono Bw14.size)
  replace h_y := h_y.next hb (Nat.le_refl _) hb.size
  replace h_p := h_p.next hb (Nat.le_refl _) hb.size
  replace k1 := k1.below hb k1.lt
  replace h_w := h_w.next hb (Nat.le_refl _) hb.size
  replace h_s := h_s.next hb (Nat.le_refl _) hb.size
  replace cw0 := (hb.cell (World.block_lt_of_cell? _ _ cw0)).trans cw0
  replace cs0 := (hb.cell (World.block_lt_of_cell? _ _ cs0)).trans cs0
  replace h_l := h_l.next hb (Nat.le_refl _) hb.size
  replace h_t := h_t.next hb (Nat.le_refl _) hb.size
  replace h_u := h_u.next hb (Nat.le_refl _) hb.size
  replace cl0 := (hb.cell (World.block_lt_of_cell? _ _ cl0)).trans cl0
  replace cu0 := (hb.cell (World.block_lt_of_cell? _ _ cu0)).trans cu0
  clear Bw14
  clear hb
  go_wp2
  go_ret
  exact ⟨rfl, Bw15⟩

end Go.Proofs.Ytaekjnjignlmoaa
