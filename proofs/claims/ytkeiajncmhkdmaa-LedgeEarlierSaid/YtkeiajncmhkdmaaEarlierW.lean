/-
  LedgeEarlier: if one copper is dropped on an earlier place no more coppers fall; if there are as many coppers as places, and none falls, all slide as much farther then as the place is earlier: for every number of places, all drops, whichever of them and however much earlier, told by numbers; no condition.
-/
import Derived.Test.YtkeiajncmhkdmaaWorks
import Derived.Test.YtkeiajncmhkdmaaRow
import Derived.Test.YtkeiajncmhkdmaaLaw2
import Derived.Test.YtkeiajncmhkdmaaFactS
import Derived.Test.YtkeiajncmhkdmaaLib2
import Derived.Test.YtkeiajncmhkdmaaStill
import Derived.Deep.RegionHeld
import Derived.Deep.RegionHeld3
namespace Go.Proofs.Ytkeiajncmhkdmaa
open Go.ChangeShapes Go.WideShapes Go.ChangeAt Go.RowKit

theorem bne_f {m n : Nat} (h : m = n) : ((m : Int) != (n : Int)) = false ∧ (m != n) = false := by subst h; simp
theorem bne_t {m n : Nat} (h : ¬ m = n) : ((m : Int) != (n : Int)) = true ∧ (m != n) = true := by
  constructor
  · simp only [bne_iff_ne, ne_eq]; omega
  · simp only [bne_iff_ne, ne_eq]; exact h
set_option maxRecDepth 100000 in
set_option maxHeartbeats 8000000 in
theorem wEarlier (x : Int) (hx0 : 0 ≤ x) (hx1 : x ≤ 255) (A1 : Option Addr) (n1 c1 : Nat) (ys1 : List Int) (z : Int) (hz0 : 0 ≤ z) (hz1 : z ≤ 255) (u : Int) (hu0 : 0 ≤ u) (hu1 : u ≤ 255) (w : World) (h1 : Ru w w.heap.size A1 n1 ys1)
    (hn1 : n1 ≤ 9223372036854775807) : Calls Try.prog 10 #[.int .u8 x, .slice A1 n1 c1, .int .u8 z, .int .u8 u] w (RetB w true) := by
  by_cases hg1 : 30 < n1 ∨ n1 < 1
  · rcases hg1 with hg1 | hg1
    · go_enter Try.func10, Try.ntmps10
      go_wp2_with (go_at_call 18; refine (aWorks _).mono ?_; rintro e w1 ⟨rfl, hb⟩)
      go_ret
      exact ⟨rfl, hb⟩
    · go_enter Try.func10, Try.ntmps10
      go_wp2_with (go_at_call 18; refine (aWorks _).mono ?_; rintro e w1 ⟨rfl, hb⟩)
      go_ret
      exact ⟨rfl, hb⟩
  · have hge : 1 ≤ n1 := by omega
    have hle : n1 ≤ 30 := by omega
    clear hg1
    have h_by := h1
    obtain ⟨b, hbx, hb1, hb8⟩ := placed_ex hx0
    have HB := Lib.hid hbx
    clear hbx
    obtain ⟨D, HD⟩ : ∃ D, Hid (drp (b : Int) ys1 = D) := ⟨_, Lib.hid rfl⟩
    have HV : Hid (Valid (b : Int) D) := Lib.hid (by rw [← HD.out]; exact valid_drp hb1 hb8 ys1)
    have HIN : Hid (∀ d ∈ D, 0 ≤ d ∧ d < (b : Int)) := Lib.hid HV.out.all
    have HLEN : Hid (D.length ≤ 12) := Lib.hid HV.out.many
    have HOK : Hid (checkDrops (b : Int) D = 0) := Lib.hid (checkDrops_valid.2 HV.out)
    have HPOS : Hid (0 < D.length) := Lib.hid (by rw [← HD.out, drp_len, h1.len]; omega)
    go_enter Try.func10, Try.ntmps10
    go_wp2_with fail
    refine (aPlaced x hx0 hx1 b HB _).mono ?_
    rintro e w' ⟨rfl, rfl⟩
    go_wp2_with fail
    refine (aDropped b A1 n1 c1 ys1 _ h_by (by omega) hb1 hb8 D HD).mono ?_
    rintro e w1_ ⟨A, nd, c, rfl, ho1, hb1⟩
    have B1 : Below w.heap.size w w1_ := (Below.refl _ _).trans (hb1.mono (Nat.le_refl _))
    have S1 : w.heap.size ≤ w1_.heap.size := B1.size
    replace h_by := Ru.next h_by hb1 (Nat.le_refl _) hb1.size
    have h_d := ho1.ri
    have m_d := ho1.most
    clear ho1
    clear hb1
    clear h_by
    have HDL := Lib.hid h_d.len
    obtain rfl : nd = D.length := HDL.out.symm
    have hnd : D.length ≤ 12 := HLEN.out
    have hn0 : 0 < D.length := HPOS.out
    obtain ⟨i, hi, hiD⟩ : ∃ i : Nat, z % (D.length : Int) = (i : Int) ∧ i < D.length := ⟨(z % (D.length : Int)).toNat, by have := Int.emod_nonneg z (b := (D.length : Int)) (by omega); omega, by have := Int.emod_lt_of_pos z (b := (D.length : Int)) (by omega); omega⟩
    obtain ⟨dv, hdv⟩ : ∃ dv, D[i]? = some dv := ⟨D[i], List.getElem?_eq_getElem hiD⟩
    have hdr := HIN.out dv (List.mem_of_getElem? hdv)
    obtain ⟨lv, hlv⟩ : ∃ lv, u % (dv + 1) = lv := ⟨_, rfl⟩
    have hl0 : 0 ≤ lv := by rw [← hlv]; exact Int.emod_nonneg _ (by omega)
    have hl1 : lv ≤ dv := by have := Int.emod_lt_of_pos u (b := dv + 1) (by omega); omega
    obtain ⟨xv, hxv⟩ : ∃ xv, dv - lv = xv := ⟨_, rfl⟩
    have HDV := Lib.hid hdv
    have HXV := Lib.hid hxv
    have HI := Lib.hid hi
    have hx00 : 0 ≤ xv := by omega
    have hxle : xv ≤ dv := by omega
    have hdrlo : 0 ≤ dv := hdr.1
    have hdrhi : dv ≤ 8 := by omega
    clear hdr
    go_wp2_with (at_builtin; refine push_ints rfl (.tmp 39) (.tmp 40) rfl w1_.heap.size (some ⟨w1_.heap.size, 0, none⟩) 0 0 [] rfl (Oi.lit0 w1_) _ A D.length c D rfl (h_d.alloc (Nat.le_refl _) _) (by omega) (by omega) (by simp) ?_; intro AX cX wX ho3 hg3; simp only [Nat.zero_add, List.nil_append] at ho3; have hb3 := (Oi.lit0 w1_).grew ((Below.refl w1_.heap.size w1_).alloc (Nat.le_refl _) _) (by simp) (Nat.le_refl _) hg3; obtain ⟨g, hAX, hg1, hg2, hcell, hfr⟩ := ho3.row hn0; subst hAX; have cx := hcell i dv HDV.out; have fx := hfr i; clear hcell hfr hg3)
    go_region
    obtain ⟨w4_, hW4⟩ : ∃ W4 : World, (wX.setCell ⟨g, i, none⟩ (.int .i64 xv)).drew = W4 := ⟨_, rfl⟩
    have hb4 : Below w1_.heap.size w1_ w4_ := by rw [← hW4]; exact (hb3.setCell hg1 _).drew
    have ho4 : Oi w4_ w1_.heap.size (some ⟨g, 0, none⟩) D.length cX (D.set i xv) := by rw [← hW4]; exact (ho3.put_ i xv).drew
    rw [hW4]
    clear hW4 cx fx hb3 ho3 hi hlv hxv
    have B2 : Below w.heap.size w w4_ := B1.trans (hb4.mono S1)
    have S2 : w.heap.size ≤ w4_.heap.size := B2.size
    replace h_d := Ri.next h_d hb4 (Nat.le_refl _) hb4.size
    clear B1 S1
    have h_x := ho4.ri
    clear ho4 hb4
    have HEA := Lib.hid (earlier_fell (b := b) (ds := D) (i := i) (x := dv) (y := xv) HIN.out HDV.out ⟨hx00, hxle⟩)
    have HV2 : Hid (Valid (b : Int) (D.set i xv)) := Lib.hid ⟨HV.out.lo, HV.out.hi, by rw [List.length_set]; exact HV.out.many, HEA.out.1⟩
    have HOK2 : Hid (checkDrops (b : Int) (D.set i xv) = 0) := Lib.hid (checkDrops_valid.2 HV2.out)
    obtain ⟨F, HFE⟩ : ∃ F, Hid (fullOf (b : Int) D = F) := ⟨_, Lib.hid rfl⟩
    obtain ⟨fe, HFF⟩ : ∃ fe, Hid (fellOf (b : Int) D = fe) := ⟨_, Lib.hid rfl⟩
    obtain ⟨F2, HFE2⟩ : ∃ F, Hid (fullOf (b : Int) (D.set i xv) = F) := ⟨_, Lib.hid rfl⟩
    obtain ⟨fe2, HFF2⟩ : ∃ fe, Hid (fellOf (b : Int) (D.set i xv) = fe) := ⟨_, Lib.hid rfl⟩
    obtain ⟨L1, HL1⟩ : ∃ L, Hid (lieOf (b : Int) D = L) := ⟨_, Lib.hid rfl⟩
    obtain ⟨s, HS1⟩ : ∃ s, Hid (farOf (b : Int) D = s) := ⟨_, Lib.hid rfl⟩
    obtain ⟨L2, HL2⟩ : ∃ L, Hid (lieOf (b : Int) (D.set i xv) = L) := ⟨_, Lib.hid rfl⟩
    obtain ⟨t, HS2⟩ : ∃ s, Hid (farOf (b : Int) (D.set i xv) = s) := ⟨_, Lib.hid rfl⟩
    have HF : Hid (fullS (b : Int) D = (F, fe, 0)) := Lib.hid (by unfold fullS; rw [if_pos HOK.out, HFE.out, HFF.out])
    have HF2 : Hid (fullS (b : Int) (D.set i xv) = (F2, fe2, 0)) := Lib.hid (by unfold fullS; rw [if_pos HOK2.out, HFE2.out, HFF2.out])
    have HL : Hid (lieS (b : Int) D = (L1, s, 0)) := Lib.hid (by unfold lieS; rw [if_pos HOK.out, HL1.out, HS1.out])
    have HLL2 : Hid (lieS (b : Int) (D.set i xv) = (L2, t, 0)) := Lib.hid (by unfold lieS; rw [if_pos HOK2.out, HL2.out, HS2.out])
    have hfle : fe2 ≤ fe := by rw [← HFF.out, ← HFF2.out]; exact HEA.out.2
    have hf0 : 0 ≤ fe := by rw [← HFF.out]; exact fellOf_nonneg D HIN.out
    have hsb : 0 ≤ s ∧ s ≤ 96 := by have := far_bd HV.out.hi D HIN.out; rw [HS1.out] at this; omega
    have htb : 0 ≤ t ∧ t ≤ 96 := by have := far_bd HV2.out.hi (D.set i xv) HV2.out.all; rw [HS2.out, List.length_set] at this; omega
    obtain ⟨s0, s1⟩ := hsb
    obtain ⟨t0, t1⟩ := htb
    go_wp2_with fail
    refine (lFullT ((b : Int)) A D.length c D _ h_d (by omega) (F) (fe) (0) HF).mono ?_
    rintro e w3_ ⟨A3, n3, c3, rfl, ho3, hb3⟩
    have B3 : Below w.heap.size w w3_ := B2.trans (hb3.mono S2)
    have S3 : w.heap.size ≤ w3_.heap.size := B3.size
    replace h_d := Ri.next h_d hb3 (Nat.le_refl _) hb3.size
    replace h_x := Ri.next h_x hb3 (Nat.le_refl _) hb3.size
    clear B2 S2
    have h_a := ho3.ri
    have m_a := ho3.most
    clear ho3
    clear hb3
    clear h_a
    go_wp2_with fail
    refine (lFullT ((b : Int)) _ D.length cX (D.set i xv) _ h_x (by omega) (F2) (fe2) (0) HF2).mono ?_
    rintro e w4_ ⟨A4, n4, c4, rfl, ho4, hb4⟩
    have B4 : Below w.heap.size w w4_ := B3.trans (hb4.mono S3)
    have S4 : w.heap.size ≤ w4_.heap.size := B4.size
    replace h_d := Ri.next h_d hb4 (Nat.le_refl _) hb4.size
    replace h_x := Ri.next h_x hb4 (Nat.le_refl _) hb4.size
    clear B3 S3
    have h_a := ho4.ri
    have m_a := ho4.most
    clear ho4
    clear hb4
    clear h_a
    go_wp2_with fail
    refine (lLieT ((b : Int)) A D.length c D _ h_d (by omega) (L1) (s) (0) HL).mono ?_
    rintro e w5_ ⟨A5, n5, c5, rfl, ho5, hb5⟩
    have B5 : Below w.heap.size w w5_ := B4.trans (hb5.mono S4)
    have S5 : w.heap.size ≤ w5_.heap.size := B5.size
    replace h_d := Ri.next h_d hb5 (Nat.le_refl _) hb5.size
    replace h_x := Ri.next h_x hb5 (Nat.le_refl _) hb5.size
    clear B4 S4
    have h_a := ho5.ri
    have m_a := ho5.most
    clear ho5
    clear hb5
    clear h_a
    go_wp2_with fail
    refine (lLieT ((b : Int)) _ D.length cX (D.set i xv) _ h_x (by omega) (L2) (t) (0) HLL2).mono ?_
    rintro e w6_ ⟨A6, n6, c6, rfl, ho6, hb6⟩
    have B6 : Below w.heap.size w w6_ := B5.trans (hb6.mono S5)
    have S6 : w.heap.size ≤ w6_.heap.size := B6.size
    replace h_d := Ri.next h_d hb6 (Nat.le_refl _) hb6.size
    replace h_x := Ri.next h_x hb6 (Nat.le_refl _) hb6.size
    clear B5 S5
    have h_a := ho6.ri
    have m_a := ho6.most
    clear ho6
    clear hb6
    clear h_a
    go_wp2_with fail
    have hmix : Try.prog.follows .mixedOrders = true := by kernel_rfl
    have hw1 : IntKind.i64.wrap (t - s) = t - s := IntWalk.i64_in _ (by omega)
    have hw2 : IntKind.i64.wrap (dv - xv) = dv - xv := IntWalk.i64_in _ (by omega)
    have hzi := HI.out
    obtain ⟨ad, dv2, hAd, _, cdv, hdv2, _⟩ := h_d.at_ hiD
    obtain rfl : dv2 = dv := by have h1 := hdv2.out; rw [HDV.out] at h1; exact (Option.some.inj h1).symm
    subst hAd
    have hiX : i < D.length := hiD
    obtain ⟨ad2, xv2, hAd2, _, cxv, hxv2, _⟩ := h_x.at_ hiX
    obtain rfl : xv2 = xv := by have h1 := hxv2.out; rw [List.getElem?_set_self hiD] at h1; exact (Option.some.inj h1).symm
    cases hAd2
    clear hdv2 hxv2
    have e0 : (⟨g, 0, none⟩ : Addr).add i = ⟨g, i, none⟩ := by
      unfold Addr.add
      split
      · rename_i h; rw [h]
      · simp
    have cxw : w6_.cell? ⟨g, i, none⟩ = some (.int .i64 xv2) := by rw [← e0]; exact cxv
    clear e0 cxv
    rcases Decidable.em (D.length = b) with hne | hne
    · have q1 := (bne_f hne).1
      by_cases hfp : 0 < fe
      · have HNE := Lib.hid hne
        clear hne
        have e1 : w6_.drew.cell? (ad.add i) = some (.int .i64 dv2) := cdv
        have e2 : w6_.drew.cell? ⟨g, i, none⟩ = some (.int .i64 xv2) := cxw
        refine wp_region_noPanic ?_
        refine wp_region_held_drew (S := fun V => V.cell? (ad.add i) = some (.int .i64 dv2) ∧ V.cell? ⟨g, i, none⟩ = some (.int .i64 xv2)) hmix ⟨e1, e2⟩ (fun hS => ?_)
        clear e1 e2
        have hld : (ad.add i).block < w6_.heap.size := World.block_lt_of_cell? _ _ cdv
        have hlx : g < w6_.heap.size := World.block_lt_of_cell? _ _ cxw
        have hb0 := below_drewN (Below.refl w6_.heap.size w6_) 1
        obtain ⟨wd, hW⟩ : ∃ X, w6_.drew = X := ⟨_, rfl⟩
        have hb0 : Below w6_.heap.size w6_ wd := hW ▸ hb0
        rw [hW] at hS ⊢
        clear hW
        refine wpAnyH_take (i := 0) (v := ?_) rfl (by kernel_rfl) (by kernel_rfl) (by kernel_rfl) (fun _ _ _ h => h) (Or.inl ⟨by rfl, ?_⟩) hS ?_
        rotate_left
        · intro w hSw
          (try dsimp only at hSw)
          go_simp
          (try with_reducible rfl)
        try simp (maxSteps := 10000000) only [Act.put, List.setIfInBounds_toArray, List.set_cons_zero, List.set_cons_succ, List.getElem_toArray, List.getElem_cons_zero, List.getElem_cons_succ]
        refine wpAnyH_take (i := 1) (v := ?_) rfl (by kernel_rfl) (by kernel_rfl) (by kernel_rfl) (fun _ _ _ h => h) (Or.inl ⟨by rfl, ?_⟩) hS ?_
        rotate_left
        · intro w hSw
          (try dsimp only at hSw)
          go_simp
          (try with_reducible rfl)
        try simp (maxSteps := 10000000) only [Act.put, List.setIfInBounds_toArray, List.set_cons_zero, List.set_cons_succ, List.getElem_toArray, List.getElem_cons_zero, List.getElem_cons_succ]
        refine wpAnyH_take (i := 2) (v := ?_) rfl (by kernel_rfl) (by kernel_rfl) (by kernel_rfl) (fun _ _ _ h => h) (Or.inl ⟨by rfl, ?_⟩) hS ?_
        rotate_left
        · intro w hSw
          (try dsimp only at hSw)
          go_simp
          (try with_reducible rfl)
        try simp (maxSteps := 10000000) only [Act.put, List.setIfInBounds_toArray, List.set_cons_zero, List.set_cons_succ, List.getElem_toArray, List.getElem_cons_zero, List.getElem_cons_succ]
        refine wpAnyH_take (i := 3) (v := ?_) rfl (by kernel_rfl) (by kernel_rfl) (by kernel_rfl) (fun _ _ _ h => h) (Or.inl ⟨by rfl, ?_⟩) hS ?_
        rotate_left
        · intro w hSw
          (try dsimp only at hSw)
          go_simp
          (try with_reducible rfl)
        try simp (maxSteps := 10000000) only [Act.put, List.setIfInBounds_toArray, List.set_cons_zero, List.set_cons_succ, List.getElem_toArray, List.getElem_cons_zero, List.getElem_cons_succ]
        refine wpAnyH_take (i := 4) (v := ?_) rfl (by kernel_rfl) (by kernel_rfl) (by kernel_rfl) (fun _ _ _ h => h) (Or.inl ⟨by rfl, ?_⟩) hS ?_
        rotate_left
        · intro w hSw
          (try dsimp only at hSw)
          go_simp
          (try with_reducible rfl)
        try simp (maxSteps := 10000000) only [Act.put, List.setIfInBounds_toArray, List.set_cons_zero, List.set_cons_succ, List.getElem_toArray, List.getElem_cons_zero, List.getElem_cons_succ]
        refine wpAnyH_take (i := 5) (v := ?_) rfl (by kernel_rfl) (by kernel_rfl) (by kernel_rfl) (fun _ _ _ h => h) (Or.inl ⟨by rfl, ?_⟩) hS ?_
        rotate_left
        · intro w hSw
          (try dsimp only at hSw)
          go_simp
          (try with_reducible rfl)
        try simp (maxSteps := 10000000) only [Act.put, List.setIfInBounds_toArray, List.set_cons_zero, List.set_cons_succ, List.getElem_toArray, List.getElem_cons_zero, List.getElem_cons_succ]
        refine wpAnyH_take (i := 6) (v := ?_) rfl (by kernel_rfl) (by kernel_rfl) (by kernel_rfl) (fun _ _ _ h => h) (Or.inl ⟨by rfl, ?_⟩) hS ?_
        rotate_left
        · intro w hSw
          (try dsimp only at hSw)
          go_simp
          (try with_reducible rfl)
        try simp (maxSteps := 10000000) only [Act.put, List.setIfInBounds_toArray, List.set_cons_zero, List.set_cons_succ, List.getElem_toArray, List.getElem_cons_zero, List.getElem_cons_succ]
        refine wpAnyH_take (i := 7) (v := ?_) rfl (by kernel_rfl) (by kernel_rfl) (by kernel_rfl) (fun _ _ _ h => h) (Or.inl ⟨by rfl, ?_⟩) hS ?_
        rotate_left
        · intro w hSw
          (try dsimp only at hSw)
          go_simp
          (try with_reducible rfl)
        try simp (maxSteps := 10000000) only [Act.put, List.setIfInBounds_toArray, List.set_cons_zero, List.set_cons_succ, List.getElem_toArray, List.getElem_cons_zero, List.getElem_cons_succ]
        refine wpAnyH_take (i := 8) (v := ?_) rfl (by kernel_rfl) (by kernel_rfl) (by kernel_rfl) (fun _ _ _ h => h) (Or.inl ⟨by rfl, ?_⟩) hS ?_
        rotate_left
        · intro w hSw
          (try dsimp only at hSw)
          go_simp
          (try with_reducible rfl)
        try simp (maxSteps := 10000000) only [Act.put, List.setIfInBounds_toArray, List.set_cons_zero, List.set_cons_succ, List.getElem_toArray, List.getElem_cons_zero, List.getElem_cons_succ]
        refine wpAnyH_take (i := 9) (v := undef) rfl (by kernel_rfl) (by kernel_rfl) (by kernel_rfl) (fun _ _ _ h => h) (Or.inr ⟨by rfl, rfl⟩) hS ?_
        try simp (maxSteps := 10000000) only [Act.put, List.setIfInBounds_toArray, List.set_cons_zero, List.set_cons_succ, List.getElem_toArray, List.getElem_cons_zero, List.getElem_cons_succ]
        refine wpAnyH_take (i := 10) (v := undef) rfl (by kernel_rfl) (by kernel_rfl) (by kernel_rfl) (fun _ _ _ h => h) (Or.inr ⟨by rfl, rfl⟩) hS ?_
        try simp (maxSteps := 10000000) only [Act.put, List.setIfInBounds_toArray, List.set_cons_zero, List.set_cons_succ, List.getElem_toArray, List.getElem_cons_zero, List.getElem_cons_succ]
        refine wpAnyH_take (i := 11) (v := undef) rfl (by kernel_rfl) (by kernel_rfl) (by kernel_rfl) (fun _ _ _ h => h) (Or.inr ⟨by rfl, rfl⟩) hS ?_
        try simp (maxSteps := 10000000) only [Act.put, List.setIfInBounds_toArray, List.set_cons_zero, List.set_cons_succ, List.getElem_toArray, List.getElem_cons_zero, List.getElem_cons_succ]
        refine wpAnyH_take (i := 12) (v := undef) rfl (by kernel_rfl) (by kernel_rfl) (by kernel_rfl) (fun _ _ _ h => h) (Or.inr ⟨by rfl, rfl⟩) hS ?_
        try simp (maxSteps := 10000000) only [Act.put, List.setIfInBounds_toArray, List.set_cons_zero, List.set_cons_succ, List.getElem_toArray, List.getElem_cons_zero, List.getElem_cons_succ]
        refine wpAnyH_take (i := 13) (v := undef) rfl (by kernel_rfl) (by kernel_rfl) (by kernel_rfl) (fun _ _ _ h => h) (Or.inr ⟨by rfl, rfl⟩) hS ?_
        try simp (maxSteps := 10000000) only [Act.put, List.setIfInBounds_toArray, List.set_cons_zero, List.set_cons_succ, List.getElem_toArray, List.getElem_cons_zero, List.getElem_cons_succ]
        refine wpAnyH_take (i := 14) (v := undef) rfl (by kernel_rfl) (by kernel_rfl) (by kernel_rfl) (fun _ _ _ h => h) (Or.inr ⟨by rfl, rfl⟩) hS ?_
        try simp (maxSteps := 10000000) only [Act.put, List.setIfInBounds_toArray, List.set_cons_zero, List.set_cons_succ, List.getElem_toArray, List.getElem_cons_zero, List.getElem_cons_succ]
        refine wpAnyH_take (i := 15) (v := undef) rfl (by kernel_rfl) (by kernel_rfl) (by kernel_rfl) (fun _ _ _ h => h) (Or.inr ⟨by rfl, rfl⟩) hS ?_
        try simp (maxSteps := 10000000) only [Act.put, List.setIfInBounds_toArray, List.set_cons_zero, List.set_cons_succ, List.getElem_toArray, List.getElem_cons_zero, List.getElem_cons_succ]
        refine wpAnyH_take (i := 16) (v := undef) rfl (by kernel_rfl) (by kernel_rfl) (by kernel_rfl) (fun _ _ _ h => h) (Or.inr ⟨by rfl, rfl⟩) hS ?_
        try simp (maxSteps := 10000000) only [Act.put, List.setIfInBounds_toArray, List.set_cons_zero, List.set_cons_succ, List.getElem_toArray, List.getElem_cons_zero, List.getElem_cons_succ]
        refine wpAnyH_take (i := 17) (v := undef) rfl (by kernel_rfl) (by kernel_rfl) (by kernel_rfl) (fun _ _ _ h => h) (Or.inr ⟨by rfl, rfl⟩) hS ?_
        try simp (maxSteps := 10000000) only [Act.put, List.setIfInBounds_toArray, List.set_cons_zero, List.set_cons_succ, List.getElem_toArray, List.getElem_cons_zero, List.getElem_cons_succ]
        refine wpAnyH_take (i := 18) (v := undef) rfl (by kernel_rfl) (by kernel_rfl) (by kernel_rfl) (fun _ _ _ h => h) (Or.inr ⟨by rfl, rfl⟩) hS ?_
        try simp (maxSteps := 10000000) only [Act.put, List.setIfInBounds_toArray, List.set_cons_zero, List.set_cons_succ, List.getElem_toArray, List.getElem_cons_zero, List.getElem_cons_succ]
        refine wpAnyH_take (i := 19) (v := undef) rfl (by kernel_rfl) (by kernel_rfl) (by kernel_rfl) (fun _ _ _ h => h) (Or.inr ⟨by rfl, rfl⟩) hS ?_
        try simp (maxSteps := 10000000) only [Act.put, List.setIfInBounds_toArray, List.set_cons_zero, List.set_cons_succ, List.getElem_toArray, List.getElem_cons_zero, List.getElem_cons_succ]
        refine wpAnyH_take (i := 20) (v := undef) rfl (by kernel_rfl) (by kernel_rfl) (by kernel_rfl) (fun _ _ _ h => h) (Or.inr ⟨by rfl, rfl⟩) hS ?_
        try simp (maxSteps := 10000000) only [Act.put, List.setIfInBounds_toArray, List.set_cons_zero, List.set_cons_succ, List.getElem_toArray, List.getElem_cons_zero, List.getElem_cons_succ]
        refine wpAnyH_take (i := 21) (v := undef) rfl (by kernel_rfl) (by kernel_rfl) (by kernel_rfl) (fun _ _ _ h => h) (Or.inr ⟨by rfl, rfl⟩) hS ?_
        try simp (maxSteps := 10000000) only [Act.put, List.setIfInBounds_toArray, List.set_cons_zero, List.set_cons_succ, List.getElem_toArray, List.getElem_cons_zero, List.getElem_cons_succ]
        refine wpAnyH_take (i := 22) (v := ?_) rfl (by kernel_rfl) (by kernel_rfl) (by kernel_rfl) (fun _ _ _ h => h) (Or.inl ⟨by rfl, ?_⟩) hS ?_
        rotate_left
        · intro w hSw
          (try dsimp only at hSw)
          go_simp
          (try with_reducible rfl)
        try simp (maxSteps := 10000000) only [Act.put, List.setIfInBounds_toArray, List.set_cons_zero, List.set_cons_succ, List.getElem_toArray, List.getElem_cons_zero, List.getElem_cons_succ]
        refine wpAnyH_take (i := 23) (v := ?_) rfl (by kernel_rfl) (by kernel_rfl) (by kernel_rfl) (fun _ _ _ h => h) (Or.inl ⟨by rfl, ?_⟩) hS ?_
        rotate_left
        · intro w hSw
          (try dsimp only at hSw)
          go_simp
          (try with_reducible rfl)
        try simp (maxSteps := 10000000) only [Act.put, List.setIfInBounds_toArray, List.set_cons_zero, List.set_cons_succ, List.getElem_toArray, List.getElem_cons_zero, List.getElem_cons_succ]
        refine wpAnyH_ready (rs := [24]) (by kernel_rfl) (by simp) ?_
        refine AllReadyH.cons rfl (fun K hK => ?_) AllReadyH.nil
        go_simp
        refine (aWorks _).mono ?_
        rintro e wz ⟨rfl, hbz⟩
        have hbz2 : Below w6_.heap.size w6_ wz := hb0.trans (hbz.mono hb0.size)
        have hfin := B6.trans (hbz2.mono S6)
        refine hK.out _ _ ⟨(hbz2.cell hld).trans cdv, (hbz2.cell hlx).trans cxw⟩ (fun hS => ?_)
        clear hK K hbz hbz2
        try simp (maxSteps := 10000000) only [Act.put, List.setIfInBounds_toArray, List.set_cons_zero, List.set_cons_succ, List.getElem_toArray, List.getElem_cons_zero, List.getElem_cons_succ]
        refine wpAnyH_take (i := 25) (v := ?_) rfl (by kernel_rfl) (by kernel_rfl) (by kernel_rfl) (fun _ _ _ h => h) (Or.inl ⟨by rfl, ?_⟩) hS ?_
        rotate_left
        · intro w hSw
          (try dsimp only at hSw)
          go_simp
          (try with_reducible rfl)
        try simp (maxSteps := 10000000) only [Act.put, List.setIfInBounds_toArray, List.set_cons_zero, List.set_cons_succ, List.getElem_toArray, List.getElem_cons_zero, List.getElem_cons_succ]
        refine wpAnyH_take (i := 26) (v := ?_) rfl (by kernel_rfl) (by kernel_rfl) (by kernel_rfl) (fun _ _ _ h => h) (Or.inl ⟨by rfl, ?_⟩) hS ?_
        rotate_left
        · intro w hSw
          (try dsimp only at hSw)
          go_simp
          (try with_reducible rfl)
        try simp (maxSteps := 10000000) only [Act.put, List.setIfInBounds_toArray, List.set_cons_zero, List.set_cons_succ, List.getElem_toArray, List.getElem_cons_zero, List.getElem_cons_succ]
        refine wpAnyH_done (by kernel_rfl) (NoPanic.normal ?_) _
        clear hS
        go_wp2
        go_ret
        exact ⟨rfl, hfin⟩
      · have hq : t - s = dv2 - xv2 := by
          have h1 := earlier_far (b := b) HIN.out HDV.out ⟨hx00, hxle⟩ hne (by rw [HFF.out]; omega)
          rw [HS1.out, HS2.out] at h1
          exact h1
        have q4 : (t - s == dv2 - xv2) = true := beq_iff_eq.2 hq
        have HNE := Lib.hid hne
        clear hne hq
        have e1 : w6_.drew.cell? (ad.add i) = some (.int .i64 dv2) := cdv
        have e2 : w6_.drew.cell? ⟨g, i, none⟩ = some (.int .i64 xv2) := cxw
        refine wp_region_noPanic ?_
        refine wp_region_held_drew (S := fun V => V.cell? (ad.add i) = some (.int .i64 dv2) ∧ V.cell? ⟨g, i, none⟩ = some (.int .i64 xv2)) hmix ⟨e1, e2⟩ (fun hS => ?_)
        clear e1 e2
        have hld : (ad.add i).block < w6_.heap.size := World.block_lt_of_cell? _ _ cdv
        have hlx : g < w6_.heap.size := World.block_lt_of_cell? _ _ cxw
        have hb0 := below_drewN (Below.refl w6_.heap.size w6_) 1
        obtain ⟨wd, hW⟩ : ∃ X, w6_.drew = X := ⟨_, rfl⟩
        have hb0 : Below w6_.heap.size w6_ wd := hW ▸ hb0
        rw [hW] at hS ⊢
        clear hW
        refine wpAnyH_take (i := 0) (v := ?_) rfl (by kernel_rfl) (by kernel_rfl) (by kernel_rfl) (fun _ _ _ h => h) (Or.inl ⟨by rfl, ?_⟩) hS ?_
        rotate_left
        · intro w hSw
          (try dsimp only at hSw)
          go_simp
          (try with_reducible rfl)
        try simp (maxSteps := 10000000) only [Act.put, List.setIfInBounds_toArray, List.set_cons_zero, List.set_cons_succ, List.getElem_toArray, List.getElem_cons_zero, List.getElem_cons_succ]
        refine wpAnyH_take (i := 1) (v := ?_) rfl (by kernel_rfl) (by kernel_rfl) (by kernel_rfl) (fun _ _ _ h => h) (Or.inl ⟨by rfl, ?_⟩) hS ?_
        rotate_left
        · intro w hSw
          (try dsimp only at hSw)
          go_simp
          (try with_reducible rfl)
        try simp (maxSteps := 10000000) only [Act.put, List.setIfInBounds_toArray, List.set_cons_zero, List.set_cons_succ, List.getElem_toArray, List.getElem_cons_zero, List.getElem_cons_succ]
        refine wpAnyH_take (i := 2) (v := ?_) rfl (by kernel_rfl) (by kernel_rfl) (by kernel_rfl) (fun _ _ _ h => h) (Or.inl ⟨by rfl, ?_⟩) hS ?_
        rotate_left
        · intro w hSw
          (try dsimp only at hSw)
          go_simp
          (try with_reducible rfl)
        try simp (maxSteps := 10000000) only [Act.put, List.setIfInBounds_toArray, List.set_cons_zero, List.set_cons_succ, List.getElem_toArray, List.getElem_cons_zero, List.getElem_cons_succ]
        refine wpAnyH_take (i := 3) (v := ?_) rfl (by kernel_rfl) (by kernel_rfl) (by kernel_rfl) (fun _ _ _ h => h) (Or.inl ⟨by rfl, ?_⟩) hS ?_
        rotate_left
        · intro w hSw
          (try dsimp only at hSw)
          go_simp
          (try with_reducible rfl)
        try simp (maxSteps := 10000000) only [Act.put, List.setIfInBounds_toArray, List.set_cons_zero, List.set_cons_succ, List.getElem_toArray, List.getElem_cons_zero, List.getElem_cons_succ]
        refine wpAnyH_take (i := 4) (v := ?_) rfl (by kernel_rfl) (by kernel_rfl) (by kernel_rfl) (fun _ _ _ h => h) (Or.inl ⟨by rfl, ?_⟩) hS ?_
        rotate_left
        · intro w hSw
          (try dsimp only at hSw)
          go_simp
          (try with_reducible rfl)
        try simp (maxSteps := 10000000) only [Act.put, List.setIfInBounds_toArray, List.set_cons_zero, List.set_cons_succ, List.getElem_toArray, List.getElem_cons_zero, List.getElem_cons_succ]
        refine wpAnyH_take (i := 5) (v := ?_) rfl (by kernel_rfl) (by kernel_rfl) (by kernel_rfl) (fun _ _ _ h => h) (Or.inl ⟨by rfl, ?_⟩) hS ?_
        rotate_left
        · intro w hSw
          (try dsimp only at hSw)
          go_simp
          (try with_reducible rfl)
        try simp (maxSteps := 10000000) only [Act.put, List.setIfInBounds_toArray, List.set_cons_zero, List.set_cons_succ, List.getElem_toArray, List.getElem_cons_zero, List.getElem_cons_succ]
        refine wpAnyH_take (i := 6) (v := ?_) rfl (by kernel_rfl) (by kernel_rfl) (by kernel_rfl) (fun _ _ _ h => h) (Or.inl ⟨by rfl, ?_⟩) hS ?_
        rotate_left
        · intro w hSw
          (try dsimp only at hSw)
          go_simp
          (try with_reducible rfl)
        try simp (maxSteps := 10000000) only [Act.put, List.setIfInBounds_toArray, List.set_cons_zero, List.set_cons_succ, List.getElem_toArray, List.getElem_cons_zero, List.getElem_cons_succ]
        refine wpAnyH_take (i := 7) (v := ?_) rfl (by kernel_rfl) (by kernel_rfl) (by kernel_rfl) (fun _ _ _ h => h) (Or.inl ⟨by rfl, ?_⟩) hS ?_
        rotate_left
        · intro w hSw
          (try dsimp only at hSw)
          go_simp
          (try with_reducible rfl)
        try simp (maxSteps := 10000000) only [Act.put, List.setIfInBounds_toArray, List.set_cons_zero, List.set_cons_succ, List.getElem_toArray, List.getElem_cons_zero, List.getElem_cons_succ]
        refine wpAnyH_take (i := 8) (v := ?_) rfl (by kernel_rfl) (by kernel_rfl) (by kernel_rfl) (fun _ _ _ h => h) (Or.inl ⟨by rfl, ?_⟩) hS ?_
        rotate_left
        · intro w hSw
          (try dsimp only at hSw)
          go_simp
          (try with_reducible rfl)
        try simp (maxSteps := 10000000) only [Act.put, List.setIfInBounds_toArray, List.set_cons_zero, List.set_cons_succ, List.getElem_toArray, List.getElem_cons_zero, List.getElem_cons_succ]
        refine wpAnyH_take (i := 9) (v := ?_) rfl (by kernel_rfl) (by kernel_rfl) (by kernel_rfl) (fun _ _ _ h => h) (Or.inl ⟨by rfl, ?_⟩) hS ?_
        rotate_left
        · intro w hSw
          (try dsimp only at hSw)
          go_simp
          (try with_reducible rfl)
        try simp (maxSteps := 10000000) only [Act.put, List.setIfInBounds_toArray, List.set_cons_zero, List.set_cons_succ, List.getElem_toArray, List.getElem_cons_zero, List.getElem_cons_succ]
        refine wpAnyH_take (i := 10) (v := ?_) rfl (by kernel_rfl) (by kernel_rfl) (by kernel_rfl) (fun _ _ _ h => h) (Or.inl ⟨by rfl, ?_⟩) hS ?_
        rotate_left
        · intro w hSw
          (try dsimp only at hSw)
          go_simp
          (try with_reducible rfl)
        try simp (maxSteps := 10000000) only [Act.put, List.setIfInBounds_toArray, List.set_cons_zero, List.set_cons_succ, List.getElem_toArray, List.getElem_cons_zero, List.getElem_cons_succ]
        refine wpAnyH_take (i := 11) (v := ?_) rfl (by kernel_rfl) (by kernel_rfl) (by kernel_rfl) (fun _ _ _ h => h) (Or.inl ⟨by rfl, ?_⟩) hS ?_
        rotate_left
        · intro w hSw
          (try dsimp only at hSw)
          go_simp
          (try with_reducible rfl)
        try simp (maxSteps := 10000000) only [Act.put, List.setIfInBounds_toArray, List.set_cons_zero, List.set_cons_succ, List.getElem_toArray, List.getElem_cons_zero, List.getElem_cons_succ]
        refine wpAnyH_take (i := 12) (v := ?_) rfl (by kernel_rfl) (by kernel_rfl) (by kernel_rfl) (fun _ _ _ h => h) (Or.inl ⟨by rfl, ?_⟩) hS ?_
        rotate_left
        · intro w hSw
          (try dsimp only at hSw)
          go_simp
          (try with_reducible rfl)
        try simp (maxSteps := 10000000) only [Act.put, List.setIfInBounds_toArray, List.set_cons_zero, List.set_cons_succ, List.getElem_toArray, List.getElem_cons_zero, List.getElem_cons_succ]
        refine wpAnyH_take (i := 13) (v := ?_) rfl (by kernel_rfl) (by kernel_rfl) (by kernel_rfl) (fun _ _ _ h => h) (Or.inl ⟨by rfl, ?_⟩) hS ?_
        rotate_left
        · intro w hSw
          (try dsimp only at hSw)
          go_simp
          (try with_reducible rfl)
        try simp (maxSteps := 10000000) only [Act.put, List.setIfInBounds_toArray, List.set_cons_zero, List.set_cons_succ, List.getElem_toArray, List.getElem_cons_zero, List.getElem_cons_succ]
        refine wpAnyH_take (i := 14) (v := ?_) rfl (by kernel_rfl) (by kernel_rfl) (by kernel_rfl) (fun _ _ _ h => h) (Or.inl ⟨by rfl, ?_⟩) hS ?_
        rotate_left
        · intro w hSw
          (try dsimp only at hSw)
          go_simp
          (try with_reducible rfl)
        try simp (maxSteps := 10000000) only [Act.put, List.setIfInBounds_toArray, List.set_cons_zero, List.set_cons_succ, List.getElem_toArray, List.getElem_cons_zero, List.getElem_cons_succ]
        refine wpAnyH_take (i := 15) (v := ?_) rfl (by kernel_rfl) (by kernel_rfl) (by kernel_rfl) (fun _ _ _ h => h) (Or.inl ⟨by rfl, ?_⟩) hS ?_
        rotate_left
        · intro w hSw
          (try dsimp only at hSw)
          go_simp
          (try with_reducible rfl)
        try simp (maxSteps := 10000000) only [Act.put, List.setIfInBounds_toArray, List.set_cons_zero, List.set_cons_succ, List.getElem_toArray, List.getElem_cons_zero, List.getElem_cons_succ]
        refine wpAnyH_take (i := 16) (v := ?_) rfl (by kernel_rfl) (by kernel_rfl) (by kernel_rfl) (fun _ _ _ h => h) (Or.inl ⟨by rfl, ?_⟩) hS ?_
        rotate_left
        · intro w hSw
          (try dsimp only at hSw)
          go_simp
          (try with_reducible rfl)
        try simp (maxSteps := 10000000) only [Act.put, List.setIfInBounds_toArray, List.set_cons_zero, List.set_cons_succ, List.getElem_toArray, List.getElem_cons_zero, List.getElem_cons_succ]
        refine wpAnyH_take (i := 17) (v := ?_) rfl (by kernel_rfl) (by kernel_rfl) (by kernel_rfl) (fun _ _ _ h => h) (Or.inl ⟨by rfl, ?_⟩) hS ?_
        rotate_left
        · intro w hSw
          (try dsimp only at hSw)
          go_simp
          (try with_reducible rfl)
        try simp (maxSteps := 10000000) only [Act.put, List.setIfInBounds_toArray, List.set_cons_zero, List.set_cons_succ, List.getElem_toArray, List.getElem_cons_zero, List.getElem_cons_succ]
        refine wpAnyH_take (i := 18) (v := ?_) rfl (by kernel_rfl) (by kernel_rfl) (by kernel_rfl) (fun _ _ _ h => h) (Or.inl ⟨by rfl, ?_⟩) hS ?_
        rotate_left
        · intro w hSw
          (try dsimp only at hSw)
          go_simp
          (try with_reducible rfl)
        try simp (maxSteps := 10000000) only [Act.put, List.setIfInBounds_toArray, List.set_cons_zero, List.set_cons_succ, List.getElem_toArray, List.getElem_cons_zero, List.getElem_cons_succ]
        refine wpAnyH_take (i := 19) (v := ?_) rfl (by kernel_rfl) (by kernel_rfl) (by kernel_rfl) (fun _ _ _ h => h) (Or.inl ⟨by rfl, ?_⟩) hS ?_
        rotate_left
        · intro w hSw
          (try dsimp only at hSw)
          go_simp
          (try with_reducible rfl)
        try simp (maxSteps := 10000000) only [Act.put, List.setIfInBounds_toArray, List.set_cons_zero, List.set_cons_succ, List.getElem_toArray, List.getElem_cons_zero, List.getElem_cons_succ]
        refine wpAnyH_take (i := 20) (v := ?_) rfl (by kernel_rfl) (by kernel_rfl) (by kernel_rfl) (fun _ _ _ h => h) (Or.inl ⟨by rfl, ?_⟩) hS ?_
        rotate_left
        · intro w hSw
          (try dsimp only at hSw)
          go_simp
          (try with_reducible rfl)
        try simp (maxSteps := 10000000) only [Act.put, List.setIfInBounds_toArray, List.set_cons_zero, List.set_cons_succ, List.getElem_toArray, List.getElem_cons_zero, List.getElem_cons_succ]
        refine wpAnyH_take (i := 21) (v := ?_) rfl (by kernel_rfl) (by kernel_rfl) (by kernel_rfl) (fun _ _ _ h => h) (Or.inl ⟨by rfl, ?_⟩) hS ?_
        rotate_left
        · intro w hSw
          (try dsimp only at hSw)
          go_simp
          (try with_reducible rfl)
        try simp (maxSteps := 10000000) only [Act.put, List.setIfInBounds_toArray, List.set_cons_zero, List.set_cons_succ, List.getElem_toArray, List.getElem_cons_zero, List.getElem_cons_succ]
        refine wpAnyH_take (i := 22) (v := ?_) rfl (by kernel_rfl) (by kernel_rfl) (by kernel_rfl) (fun _ _ _ h => h) (Or.inl ⟨by rfl, ?_⟩) hS ?_
        rotate_left
        · intro w hSw
          (try dsimp only at hSw)
          go_simp
          (try with_reducible rfl)
        try simp (maxSteps := 10000000) only [Act.put, List.setIfInBounds_toArray, List.set_cons_zero, List.set_cons_succ, List.getElem_toArray, List.getElem_cons_zero, List.getElem_cons_succ]
        refine wpAnyH_take (i := 23) (v := ?_) rfl (by kernel_rfl) (by kernel_rfl) (by kernel_rfl) (fun _ _ _ h => h) (Or.inl ⟨by rfl, ?_⟩) hS ?_
        rotate_left
        · intro w hSw
          (try dsimp only at hSw)
          go_simp
          (try with_reducible rfl)
        try simp (maxSteps := 10000000) only [Act.put, List.setIfInBounds_toArray, List.set_cons_zero, List.set_cons_succ, List.getElem_toArray, List.getElem_cons_zero, List.getElem_cons_succ]
        refine wpAnyH_ready (rs := [24]) (by kernel_rfl) (by simp) ?_
        refine AllReadyH.cons rfl (fun K hK => ?_) AllReadyH.nil
        go_simp
        refine (aWorks _).mono ?_
        rintro e wz ⟨rfl, hbz⟩
        have hbz2 : Below w6_.heap.size w6_ wz := hb0.trans (hbz.mono hb0.size)
        have hfin := B6.trans (hbz2.mono S6)
        refine hK.out _ _ ⟨(hbz2.cell hld).trans cdv, (hbz2.cell hlx).trans cxw⟩ (fun hS => ?_)
        clear hK K hbz hbz2
        try simp (maxSteps := 10000000) only [Act.put, List.setIfInBounds_toArray, List.set_cons_zero, List.set_cons_succ, List.getElem_toArray, List.getElem_cons_zero, List.getElem_cons_succ]
        refine wpAnyH_take (i := 25) (v := ?_) rfl (by kernel_rfl) (by kernel_rfl) (by kernel_rfl) (fun _ _ _ h => h) (Or.inl ⟨by rfl, ?_⟩) hS ?_
        rotate_left
        · intro w hSw
          (try dsimp only at hSw)
          go_simp
          (try with_reducible rfl)
        try simp (maxSteps := 10000000) only [Act.put, List.setIfInBounds_toArray, List.set_cons_zero, List.set_cons_succ, List.getElem_toArray, List.getElem_cons_zero, List.getElem_cons_succ]
        refine wpAnyH_take (i := 26) (v := ?_) rfl (by kernel_rfl) (by kernel_rfl) (by kernel_rfl) (fun _ _ _ h => h) (Or.inl ⟨by rfl, ?_⟩) hS ?_
        rotate_left
        · intro w hSw
          (try dsimp only at hSw)
          go_simp
          (try with_reducible rfl)
        try simp (maxSteps := 10000000) only [Act.put, List.setIfInBounds_toArray, List.set_cons_zero, List.set_cons_succ, List.getElem_toArray, List.getElem_cons_zero, List.getElem_cons_succ]
        refine wpAnyH_done (by kernel_rfl) (NoPanic.normal ?_) _
        clear hS
        go_wp2
        go_ret
        exact ⟨rfl, hfin⟩
    · have q1 := (bne_t hne).1
      clear hne
      have e1 : w6_.drew.cell? (ad.add i) = some (.int .i64 dv2) := cdv
      have e2 : w6_.drew.cell? ⟨g, i, none⟩ = some (.int .i64 xv2) := cxw
      refine wp_region_noPanic ?_
      refine wp_region_held_drew (S := fun V => V.cell? (ad.add i) = some (.int .i64 dv2) ∧ V.cell? ⟨g, i, none⟩ = some (.int .i64 xv2)) hmix ⟨e1, e2⟩ (fun hS => ?_)
      clear e1 e2
      have hld : (ad.add i).block < w6_.heap.size := World.block_lt_of_cell? _ _ cdv
      have hlx : g < w6_.heap.size := World.block_lt_of_cell? _ _ cxw
      have hb0 := below_drewN (Below.refl w6_.heap.size w6_) 1
      obtain ⟨wd, hW⟩ : ∃ X, w6_.drew = X := ⟨_, rfl⟩
      have hb0 : Below w6_.heap.size w6_ wd := hW ▸ hb0
      rw [hW] at hS ⊢
      clear hW
      refine wpAnyH_take (i := 0) (v := ?_) rfl (by kernel_rfl) (by kernel_rfl) (by kernel_rfl) (fun _ _ _ h => h) (Or.inl ⟨by rfl, ?_⟩) hS ?_
      rotate_left
      · intro w hSw
        (try dsimp only at hSw)
        go_simp
        (try with_reducible rfl)
      try simp (maxSteps := 10000000) only [Act.put, List.setIfInBounds_toArray, List.set_cons_zero, List.set_cons_succ, List.getElem_toArray, List.getElem_cons_zero, List.getElem_cons_succ]
      refine wpAnyH_take (i := 1) (v := ?_) rfl (by kernel_rfl) (by kernel_rfl) (by kernel_rfl) (fun _ _ _ h => h) (Or.inl ⟨by rfl, ?_⟩) hS ?_
      rotate_left
      · intro w hSw
        (try dsimp only at hSw)
        go_simp
        (try with_reducible rfl)
      try simp (maxSteps := 10000000) only [Act.put, List.setIfInBounds_toArray, List.set_cons_zero, List.set_cons_succ, List.getElem_toArray, List.getElem_cons_zero, List.getElem_cons_succ]
      refine wpAnyH_take (i := 2) (v := ?_) rfl (by kernel_rfl) (by kernel_rfl) (by kernel_rfl) (fun _ _ _ h => h) (Or.inl ⟨by rfl, ?_⟩) hS ?_
      rotate_left
      · intro w hSw
        (try dsimp only at hSw)
        go_simp
        (try with_reducible rfl)
      try simp (maxSteps := 10000000) only [Act.put, List.setIfInBounds_toArray, List.set_cons_zero, List.set_cons_succ, List.getElem_toArray, List.getElem_cons_zero, List.getElem_cons_succ]
      refine wpAnyH_take (i := 3) (v := ?_) rfl (by kernel_rfl) (by kernel_rfl) (by kernel_rfl) (fun _ _ _ h => h) (Or.inl ⟨by rfl, ?_⟩) hS ?_
      rotate_left
      · intro w hSw
        (try dsimp only at hSw)
        go_simp
        (try with_reducible rfl)
      try simp (maxSteps := 10000000) only [Act.put, List.setIfInBounds_toArray, List.set_cons_zero, List.set_cons_succ, List.getElem_toArray, List.getElem_cons_zero, List.getElem_cons_succ]
      refine wpAnyH_take (i := 4) (v := ?_) rfl (by kernel_rfl) (by kernel_rfl) (by kernel_rfl) (fun _ _ _ h => h) (Or.inl ⟨by rfl, ?_⟩) hS ?_
      rotate_left
      · intro w hSw
        (try dsimp only at hSw)
        go_simp
        (try with_reducible rfl)
      try simp (maxSteps := 10000000) only [Act.put, List.setIfInBounds_toArray, List.set_cons_zero, List.set_cons_succ, List.getElem_toArray, List.getElem_cons_zero, List.getElem_cons_succ]
      refine wpAnyH_take (i := 5) (v := undef) rfl (by kernel_rfl) (by kernel_rfl) (by kernel_rfl) (fun _ _ _ h => h) (Or.inr ⟨by rfl, rfl⟩) hS ?_
      try simp (maxSteps := 10000000) only [Act.put, List.setIfInBounds_toArray, List.set_cons_zero, List.set_cons_succ, List.getElem_toArray, List.getElem_cons_zero, List.getElem_cons_succ]
      refine wpAnyH_take (i := 6) (v := undef) rfl (by kernel_rfl) (by kernel_rfl) (by kernel_rfl) (fun _ _ _ h => h) (Or.inr ⟨by rfl, rfl⟩) hS ?_
      try simp (maxSteps := 10000000) only [Act.put, List.setIfInBounds_toArray, List.set_cons_zero, List.set_cons_succ, List.getElem_toArray, List.getElem_cons_zero, List.getElem_cons_succ]
      refine wpAnyH_take (i := 7) (v := ?_) rfl (by kernel_rfl) (by kernel_rfl) (by kernel_rfl) (fun _ _ _ h => h) (Or.inl ⟨by rfl, ?_⟩) hS ?_
      rotate_left
      · intro w hSw
        (try dsimp only at hSw)
        go_simp
        (try with_reducible rfl)
      try simp (maxSteps := 10000000) only [Act.put, List.setIfInBounds_toArray, List.set_cons_zero, List.set_cons_succ, List.getElem_toArray, List.getElem_cons_zero, List.getElem_cons_succ]
      refine wpAnyH_take (i := 8) (v := ?_) rfl (by kernel_rfl) (by kernel_rfl) (by kernel_rfl) (fun _ _ _ h => h) (Or.inl ⟨by rfl, ?_⟩) hS ?_
      rotate_left
      · intro w hSw
        (try dsimp only at hSw)
        go_simp
        (try with_reducible rfl)
      try simp (maxSteps := 10000000) only [Act.put, List.setIfInBounds_toArray, List.set_cons_zero, List.set_cons_succ, List.getElem_toArray, List.getElem_cons_zero, List.getElem_cons_succ]
      refine wpAnyH_take (i := 9) (v := undef) rfl (by kernel_rfl) (by kernel_rfl) (by kernel_rfl) (fun _ _ _ h => h) (Or.inr ⟨by rfl, rfl⟩) hS ?_
      try simp (maxSteps := 10000000) only [Act.put, List.setIfInBounds_toArray, List.set_cons_zero, List.set_cons_succ, List.getElem_toArray, List.getElem_cons_zero, List.getElem_cons_succ]
      refine wpAnyH_take (i := 10) (v := undef) rfl (by kernel_rfl) (by kernel_rfl) (by kernel_rfl) (fun _ _ _ h => h) (Or.inr ⟨by rfl, rfl⟩) hS ?_
      try simp (maxSteps := 10000000) only [Act.put, List.setIfInBounds_toArray, List.set_cons_zero, List.set_cons_succ, List.getElem_toArray, List.getElem_cons_zero, List.getElem_cons_succ]
      refine wpAnyH_take (i := 11) (v := undef) rfl (by kernel_rfl) (by kernel_rfl) (by kernel_rfl) (fun _ _ _ h => h) (Or.inr ⟨by rfl, rfl⟩) hS ?_
      try simp (maxSteps := 10000000) only [Act.put, List.setIfInBounds_toArray, List.set_cons_zero, List.set_cons_succ, List.getElem_toArray, List.getElem_cons_zero, List.getElem_cons_succ]
      refine wpAnyH_take (i := 12) (v := undef) rfl (by kernel_rfl) (by kernel_rfl) (by kernel_rfl) (fun _ _ _ h => h) (Or.inr ⟨by rfl, rfl⟩) hS ?_
      try simp (maxSteps := 10000000) only [Act.put, List.setIfInBounds_toArray, List.set_cons_zero, List.set_cons_succ, List.getElem_toArray, List.getElem_cons_zero, List.getElem_cons_succ]
      refine wpAnyH_take (i := 13) (v := undef) rfl (by kernel_rfl) (by kernel_rfl) (by kernel_rfl) (fun _ _ _ h => h) (Or.inr ⟨by rfl, rfl⟩) hS ?_
      try simp (maxSteps := 10000000) only [Act.put, List.setIfInBounds_toArray, List.set_cons_zero, List.set_cons_succ, List.getElem_toArray, List.getElem_cons_zero, List.getElem_cons_succ]
      refine wpAnyH_take (i := 14) (v := undef) rfl (by kernel_rfl) (by kernel_rfl) (by kernel_rfl) (fun _ _ _ h => h) (Or.inr ⟨by rfl, rfl⟩) hS ?_
      try simp (maxSteps := 10000000) only [Act.put, List.setIfInBounds_toArray, List.set_cons_zero, List.set_cons_succ, List.getElem_toArray, List.getElem_cons_zero, List.getElem_cons_succ]
      refine wpAnyH_take (i := 15) (v := undef) rfl (by kernel_rfl) (by kernel_rfl) (by kernel_rfl) (fun _ _ _ h => h) (Or.inr ⟨by rfl, rfl⟩) hS ?_
      try simp (maxSteps := 10000000) only [Act.put, List.setIfInBounds_toArray, List.set_cons_zero, List.set_cons_succ, List.getElem_toArray, List.getElem_cons_zero, List.getElem_cons_succ]
      refine wpAnyH_take (i := 16) (v := undef) rfl (by kernel_rfl) (by kernel_rfl) (by kernel_rfl) (fun _ _ _ h => h) (Or.inr ⟨by rfl, rfl⟩) hS ?_
      try simp (maxSteps := 10000000) only [Act.put, List.setIfInBounds_toArray, List.set_cons_zero, List.set_cons_succ, List.getElem_toArray, List.getElem_cons_zero, List.getElem_cons_succ]
      refine wpAnyH_take (i := 17) (v := undef) rfl (by kernel_rfl) (by kernel_rfl) (by kernel_rfl) (fun _ _ _ h => h) (Or.inr ⟨by rfl, rfl⟩) hS ?_
      try simp (maxSteps := 10000000) only [Act.put, List.setIfInBounds_toArray, List.set_cons_zero, List.set_cons_succ, List.getElem_toArray, List.getElem_cons_zero, List.getElem_cons_succ]
      refine wpAnyH_take (i := 18) (v := undef) rfl (by kernel_rfl) (by kernel_rfl) (by kernel_rfl) (fun _ _ _ h => h) (Or.inr ⟨by rfl, rfl⟩) hS ?_
      try simp (maxSteps := 10000000) only [Act.put, List.setIfInBounds_toArray, List.set_cons_zero, List.set_cons_succ, List.getElem_toArray, List.getElem_cons_zero, List.getElem_cons_succ]
      refine wpAnyH_take (i := 19) (v := undef) rfl (by kernel_rfl) (by kernel_rfl) (by kernel_rfl) (fun _ _ _ h => h) (Or.inr ⟨by rfl, rfl⟩) hS ?_
      try simp (maxSteps := 10000000) only [Act.put, List.setIfInBounds_toArray, List.set_cons_zero, List.set_cons_succ, List.getElem_toArray, List.getElem_cons_zero, List.getElem_cons_succ]
      refine wpAnyH_take (i := 20) (v := undef) rfl (by kernel_rfl) (by kernel_rfl) (by kernel_rfl) (fun _ _ _ h => h) (Or.inr ⟨by rfl, rfl⟩) hS ?_
      try simp (maxSteps := 10000000) only [Act.put, List.setIfInBounds_toArray, List.set_cons_zero, List.set_cons_succ, List.getElem_toArray, List.getElem_cons_zero, List.getElem_cons_succ]
      refine wpAnyH_take (i := 21) (v := undef) rfl (by kernel_rfl) (by kernel_rfl) (by kernel_rfl) (fun _ _ _ h => h) (Or.inr ⟨by rfl, rfl⟩) hS ?_
      try simp (maxSteps := 10000000) only [Act.put, List.setIfInBounds_toArray, List.set_cons_zero, List.set_cons_succ, List.getElem_toArray, List.getElem_cons_zero, List.getElem_cons_succ]
      refine wpAnyH_take (i := 22) (v := ?_) rfl (by kernel_rfl) (by kernel_rfl) (by kernel_rfl) (fun _ _ _ h => h) (Or.inl ⟨by rfl, ?_⟩) hS ?_
      rotate_left
      · intro w hSw
        (try dsimp only at hSw)
        go_simp
        (try with_reducible rfl)
      try simp (maxSteps := 10000000) only [Act.put, List.setIfInBounds_toArray, List.set_cons_zero, List.set_cons_succ, List.getElem_toArray, List.getElem_cons_zero, List.getElem_cons_succ]
      refine wpAnyH_take (i := 23) (v := ?_) rfl (by kernel_rfl) (by kernel_rfl) (by kernel_rfl) (fun _ _ _ h => h) (Or.inl ⟨by rfl, ?_⟩) hS ?_
      rotate_left
      · intro w hSw
        (try dsimp only at hSw)
        go_simp
        (try with_reducible rfl)
      try simp (maxSteps := 10000000) only [Act.put, List.setIfInBounds_toArray, List.set_cons_zero, List.set_cons_succ, List.getElem_toArray, List.getElem_cons_zero, List.getElem_cons_succ]
      refine wpAnyH_ready (rs := [24]) (by kernel_rfl) (by simp) ?_
      refine AllReadyH.cons rfl (fun K hK => ?_) AllReadyH.nil
      go_simp
      refine (aWorks _).mono ?_
      rintro e wz ⟨rfl, hbz⟩
      have hbz2 : Below w6_.heap.size w6_ wz := hb0.trans (hbz.mono hb0.size)
      have hfin := B6.trans (hbz2.mono S6)
      refine hK.out _ _ ⟨(hbz2.cell hld).trans cdv, (hbz2.cell hlx).trans cxw⟩ (fun hS => ?_)
      clear hK K hbz hbz2
      try simp (maxSteps := 10000000) only [Act.put, List.setIfInBounds_toArray, List.set_cons_zero, List.set_cons_succ, List.getElem_toArray, List.getElem_cons_zero, List.getElem_cons_succ]
      refine wpAnyH_take (i := 25) (v := ?_) rfl (by kernel_rfl) (by kernel_rfl) (by kernel_rfl) (fun _ _ _ h => h) (Or.inl ⟨by rfl, ?_⟩) hS ?_
      rotate_left
      · intro w hSw
        (try dsimp only at hSw)
        go_simp
        (try with_reducible rfl)
      try simp (maxSteps := 10000000) only [Act.put, List.setIfInBounds_toArray, List.set_cons_zero, List.set_cons_succ, List.getElem_toArray, List.getElem_cons_zero, List.getElem_cons_succ]
      refine wpAnyH_take (i := 26) (v := ?_) rfl (by kernel_rfl) (by kernel_rfl) (by kernel_rfl) (fun _ _ _ h => h) (Or.inl ⟨by rfl, ?_⟩) hS ?_
      rotate_left
      · intro w hSw
        (try dsimp only at hSw)
        go_simp
        (try with_reducible rfl)
      try simp (maxSteps := 10000000) only [Act.put, List.setIfInBounds_toArray, List.set_cons_zero, List.set_cons_succ, List.getElem_toArray, List.getElem_cons_zero, List.getElem_cons_succ]
      refine wpAnyH_done (by kernel_rfl) (NoPanic.normal ?_) _
      clear hS
      go_wp2
      go_ret
      exact ⟨rfl, hfin⟩

set_option maxRecDepth 100000 in
theorem LedgeEarlier_lifted (os : Os) (started : os.Started) (H : Type) (enc : TypeId × Value → H) :
    ReturnsInHanded {} Try.checked os 10 .any (Rows.ledgeEarlierSpec.pre6 enc Try.prog Try.f10 Rows.ledgeEarlierRow.domain false) (Rows.ledgeEarlierSpec.post enc Try.prog Try.f10 false true false false) := by
  refine returnsInHanded_of_change (C := Try.checked) row_own started (by kernel_rfl) Try.func10
    (ChangeSpec.witness6 (enc := enc) (C := Try.checked) false ⟨#[], #[.int .u8 0, .slice none 0 0, .int .u8 0, .int .u8 0], []⟩ 8 (by kernel_rfl) (by kernel_rfl) (by kernel_rfl) (by kernel_rfl)) ?_
  intro W base args ds gs before hval0 hW _ _
  have hval : ∀ (j : Nat) t v, Try.f10.params[j]? = some t → args[j]? = some v → Value.okWide Try.prog W .any base t v := hval0
  have hW' := hW
  obtain ⟨p, q, hA0, hV, rfl, _, _⟩ := hW
  have hA : DataW.TrodAll enc Try.prog W 0 (fun _ => true) true Try.f10.params.toList args.toList ds p := hA0
  rw [Try.params10] at hA hval
  obtain ⟨v0, v1, v2, v3, d0, d1, d2, d3, p0, p1, p2, p3, rfl, rfl, rfl, h0, h1, h2, h3⟩ := trodAll_four hA
  obtain ⟨rfl, rfl⟩ := trodVars_none hV
  clear hA0 hval0
  simp only [List.append_nil] at hW'
  have hlt : ∀ x ∈ (p0 ++ p1 ++ p2 ++ p3), x.block < W.heap.size := fun x hx => by simpa using hW'.lt x hx
  have a0 := fun W' (hb : Below W.heap.size W W') => row_stays (t := 5) (by kernel_rfl) (of_decide_eq_true (by kernel_rfl)) h0 (fun x hx => hlt x (by simp [hx])) hb
  have a1 := fun W' (hb : Below W.heap.size W W') => row_stays (t := 41) (by kernel_rfl) (of_decide_eq_true (by kernel_rfl)) h1 (fun x hx => hlt x (by simp [hx])) hb
  have a2 := fun W' (hb : Below W.heap.size W W') => row_stays (t := 5) (by kernel_rfl) (of_decide_eq_true (by kernel_rfl)) h2 (fun x hx => hlt x (by simp [hx])) hb
  have a3 := fun W' (hb : Below W.heap.size W W') => row_stays (t := 5) (by kernel_rfl) (of_decide_eq_true (by kernel_rfl)) h3 (fun x hx => hlt x (by simp [hx])) hb
  obtain ⟨x0, rfl, _, _, wx0⟩ := open_int (P := Try.prog) (k := .u8) (t := 5) (by kernel_rfl) (hval 0 5 v0 rfl rfl) h0
  obtain ⟨A1, n1, c1, xs1, rfl, hc1, hm1, hx1, hw1⟩ := row_ints (t := 41) (e := 5) (k := .u8) (by kernel_rfl) (by kernel_rfl) (by kernel_rfl) (hval 1 41 v1 rfl rfl) h1 (fun x hx => hlt x (by simp [hx]))
  obtain ⟨x2, rfl, _, _, wx2⟩ := open_int (P := Try.prog) (k := .u8) (t := 5) (by kernel_rfl) (hval 2 5 v2 rfl rfl) h2
  obtain ⟨x3, rfl, _, _, wx3⟩ := open_int (P := Try.prog) (k := .u8) (t := 5) (by kernel_rfl) (hval 3 5 v3 rfl rfl) h3
  refine (wEarlier x0 (u8_lo wx0) (u8_hi wx0) A1 n1 c1 xs1 x2 (u8_lo wx2) (u8_hi wx2) x3 (u8_lo wx3) (u8_hi wx3) W (Ru.of_row hx1 hw1) (by omega)).mono fun e W' ⟨he, hb⟩ => ?_
  subst he
  exact ⟨_, rfl, _, _, _, [], (p0 ++ p1 ++ p2 ++ p3), [], hW', trodAll_mk1 (shut_bool Try.underlying4 true), (by simp only [List.append_assoc]; exact trodAll_mk4 (a0 _ hb) (a1 _ hb) (a2 _ hb) (a3 _ hb)), rfl, hb.frame _, fun h => by cases h⟩
theorem LedgeEarlier_holds : Rows.LedgeEarlierSaid :=
  OpenClaim.holds_of_wide 10 Try.f10 rfl rfl rfl rfl rfl rfl rfl ⟨rfl, rfl, rfl, rfl, rfl⟩ rfl rfl rfl rfl rfl (by kernel_rfl) Try.func10 (by kernel_rfl)
    (of_decide_eq_true (by kernel_rfl)) (by unfold Func.isWrapper; first | (rw [if_pos (by decide +kernel)]; kernel_rfl) | (rw [if_neg (by decide +kernel)]; exact ⟨rfl, rfl⟩))
    (fun os started H enc _ => LedgeEarlier_lifted os started H enc)
#print axioms LedgeEarlier_holds
end Go.Proofs.Ytkeiajncmhkdmaa
