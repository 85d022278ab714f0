/-
  LedgeNext: one copper more: the others lie as before, what it does is told by the places that are free from where it is dropped, and just then its drop is one of those that may come next: for every number of places, all drops and every place, told by numbers; no condition.
-/
import Derived.Test.YtkeiajncmhkdmaaWorks
import Derived.Test.YtkeiajncmhkdmaaRow
import Derived.Test.YtkeiajncmhkdmaaLaw2
import Derived.Test.YtkeiajncmhkdmaaFactS
import Derived.Test.YtkeiajncmhkdmaaLib2
namespace Go.Proofs.Ytkeiajncmhkdmaa
open Go.ChangeShapes Go.WideShapes Go.ChangeAt Go.RowKit

def FreeB (fr : Bool) (k p : Nat) (F : List Int) : Prop := fr = true ↔ ∃ y : Nat, k ≤ y ∧ y < p ∧ (y : Int) ∉ F
theorem mayIn_le (p : Int) (ds : List Int) (n : Nat) : (mayIn p ds n).length ≤ n := by
  unfold mayIn
  exact Nat.le_trans (List.length_filter_le _ _) (by rw [upTo_length]; exact Nat.le_refl _)
theorem next_more {b : Nat} {ds : List Int} {k : Int} (hk : 0 ≤ k ∧ k < (b : Int)) : (fullOf (b : Int) ds).length ≤ (fullOf (b : Int) (ds ++ [k])).length ∧ fellOf (b : Int) ds ≤ fellOf (b : Int) (ds ++ [k]) := by
  have h := fellOf_snoc (b := b) (ds := ds) hk
  refine ⟨?_, by split at h <;> omega⟩
  unfold fellOf at h
  simp only [List.length_append, List.length_singleton] at h
  split at h <;> omega
theorem next_free {b : Nat} {ds : List Int} {k : Nat} (h0 : fellOf (b : Int) ds = 0) (hk : k < b) : fellOf (b : Int) (ds ++ [(k : Int)]) = 0 ↔ ∃ y : Nat, k ≤ y ∧ y < b ∧ (y : Int) ∉ fullOf (b : Int) ds := by
  have hd : 0 ≤ (k : Int) ∧ (k : Int) < (b : Int) := ⟨by omega, by omega⟩
  have h := fellOf_snoc (b := b) (ds := ds) hd
  have hle := (slid1_bd (places := (b : Int)) (L := lieOf (b : Int) ds) (at_ := (k : Int)) (by omega)).2
  have hf := free_from (b := b) (L := lieOf (b : Int) ds) hd
  have key : fellOf (b : Int) (ds ++ [(k : Int)]) = 0 ↔ slid1 (b : Int) (lieOf (b : Int) ds) (k : Int) < b := by
    rw [h, h0]
    split <;> omega
  rw [key, hf]
  constructor
  · rintro ⟨x, h1, h2, h3⟩
    refine ⟨x.toNat, by omega, by omega, fun hm => h3 ?_⟩
    have := (mem_fullOf.1 hm).2.2
    rwa [show ((x.toNat : Nat) : Int) = x by omega] at this
  · rintro ⟨y, h1, h2, h3⟩
    exact ⟨(y : Int), by omega, by omega, fun hm => h3 (mem_fullOf.2 ⟨by omega, by omega, hm⟩)⟩
set_option maxRecDepth 100000 in
set_option maxHeartbeats 4000000 in
theorem wNext (x : Int) (hx0 : 0 ≤ x) (hx1 : x ≤ 255) (A1 : Option Addr) (n1 c1 : Nat) (ys1 : List Int) (y : Int) (hy0 : 0 ≤ y) (hy1 : y ≤ 255) (w : World) (h1 : Ru w w.heap.size A1 n1 ys1)
    (hn1 : n1 ≤ 9223372036854775807) : Calls Try.prog 15 #[.int .u8 x, .slice A1 n1 c1, .int .u8 y] w (RetB w true) := by
  obtain ⟨b, hbx, hb1, hb8⟩ := placed_ex hx0
  have HB := Lib.hid hbx
  clear hbx
  obtain ⟨D, HD⟩ : ∃ D, Hid (drp (b : Int) ys1 = D) := ⟨_, Lib.hid rfl⟩
  have HV : Hid (Valid (b : Int) D) := Lib.hid (by rw [← HD.out]; exact valid_drp hb1 hb8 ys1)
  have HIN : Hid (∀ d ∈ D, 0 ≤ d ∧ d < (b : Int)) := Lib.hid HV.out.all
  have HLEN : Hid (D.length ≤ 12) := Lib.hid HV.out.many
  have HOK : Hid (checkDrops (b : Int) D = 0) := Lib.hid (checkDrops_valid.2 HV.out)
  by_cases hg : 12 ≤ n1
  · go_enter Try.func15, Try.ntmps15
    go_wp2_with fail
    refine (aPlaced x hx0 hx1 b HB _).mono ?_
    rintro e w' ⟨rfl, rfl⟩
    go_wp2_with (go_at_call 18; refine (aWorks _).mono ?_; rintro e w1 ⟨rfl, hb⟩)
    go_ret
    exact ⟨rfl, hb⟩
  · have h_by := h1
    have HLEN2 : Hid (D.length ≤ 11) := Lib.hid (by rw [← HD.out, drp_len, h1.len]; omega)
    obtain ⟨k, HP⟩ : ∃ k : Nat, Hid (y % (b : Int) = (k : Int)) := ⟨(y % (b : Int)).toNat, Lib.hid (by have := Int.emod_nonneg y (b := (b : Int)) (by omega); omega)⟩
    have hkb : k < b := by have h1 := HP.out; have := Int.emod_lt_of_pos y (b := (b : Int)) (by omega); omega
    have hbi : 1 ≤ (b : Int) := by omega
    have hpm : y % (b : Int) = (k : Int) := HP.out
    go_enter Try.func15, Try.ntmps15
    go_wp2_with fail
    refine (aPlaced x hx0 hx1 b HB _).mono ?_
    rintro e w' ⟨rfl, rfl⟩
    go_wp2_with fail
    refine (aDropped b A1 n1 c1 ys1 _ h_by (by omega) hb1 hb8 D HD).mono ?_
    rintro e w1_ ⟨A, nd, c, rfl, ho1, hb1⟩
    have B1 : Below w.heap.size w w1_ := (Below.refl _ _).trans (hb1.mono (Nat.le_refl _))
    have S1 : w.heap.size ≤ w1_.heap.size := B1.size
    replace h_by := Ru.next h_by hb1 (Nat.le_refl _) hb1.size
    have h_d := ho1.ri
    have m_d := ho1.most
    clear ho1
    clear hb1
    clear h_by
    have HDL := Lib.hid h_d.len
    have hnd : nd ≤ 11 := by have h1 := HDL.out; have h2 := HLEN2.out; omega
    go_wp2_with (first
      | (at_builtin; refine push_ints rfl (.tmp 40) (.tmp 41) rfl w1_.heap.size (some ⟨w1_.heap.size, 0, none⟩) 0 0 [] rfl (Oi.lit0 w1_) _ A nd c D rfl (h_d.alloc (Nat.le_refl _) _) (by omega) (by omega) (by simp) ?_; intro AX cX wX ho3 hg3; simp only [Nat.zero_add, List.nil_append] at ho3 ⊢; have hb3 := (Oi.lit0 w1_).grew ((Below.refl w1_.heap.size w1_).alloc (Nat.le_refl _) _) (by simp) (Nat.le_refl _) hg3; have hsz3 := hb3.size)
      | (at_builtin; refine push_int rfl (.tmp 42) (.tmp 44) rfl (w1_.heap.size) AX nd cX (D) rfl (ho3.alloc _) ⟨wX.heap.size, 0, none⟩ 1 _ rfl (cell_new1 _ _ _) (by omega) (by simp only [World.size_alloc]; omega) ?_; intro gZ capZ w1Z hown1Z hgrow1Z))
    have hbz := ho3.pushed hb3 hsz3 (Nat.le_refl _) hgrow1Z
    obtain ⟨nx, hnx⟩ : ∃ nx, nd + 1 = nx := ⟨_, rfl⟩
    have HNX := Lib.hid hnx
    rw [hnx] at hown1Z ⊢
    obtain ⟨X, hX⟩ : ∃ X, D ++ [(k : Int)] = X := ⟨_, rfl⟩
    have HX := Lib.hid hX
    rw [hX] at hown1Z
    clear hnx hX ho3 hb3 hsz3 hg3 hgrow1Z
    have B2 : Below w.heap.size w w1Z := B1.trans (hbz.mono S1)
    have S2 : w.heap.size ≤ w1Z.heap.size := B2.size
    replace h_d := Ri.next h_d hbz (Nat.le_refl _) hbz.size
    clear B1 S1
    have h_x := hown1Z.ri
    clear hown1Z hbz
    have hxn : nx ≤ 12 := by have := HNX.out; omega
    have HV2 : Hid (Valid (b : Int) X) := Lib.hid (by
      rw [← HX.out]
      exact ⟨HV.out.lo, HV.out.hi, by rw [List.length_append, List.length_singleton, HDL.out]; omega, fun d hd => by
        rw [List.mem_append, List.mem_singleton] at hd
        rcases hd with hd | rfl
        · exact HIN.out d hd
        · omega⟩)
    have HOK2 : Hid (checkDrops (b : Int) X = 0) := Lib.hid (checkDrops_valid.2 HV2.out)
    obtain ⟨F, HFE⟩ : ∃ F, Hid (fullOf (b : Int) D = F) := ⟨_, Lib.hid rfl⟩
    obtain ⟨fe, HFF⟩ : ∃ fe, Hid (fellOf (b : Int) D = fe) := ⟨_, Lib.hid rfl⟩
    obtain ⟨F2, HFE2⟩ : ∃ F, Hid (fullOf (b : Int) X = F) := ⟨_, Lib.hid rfl⟩
    obtain ⟨fe2, HFF2⟩ : ∃ fe, Hid (fellOf (b : Int) X = fe) := ⟨_, Lib.hid rfl⟩
    obtain ⟨L1, HL1⟩ : ∃ L, Hid (lieOf (b : Int) D = L) := ⟨_, Lib.hid rfl⟩
    obtain ⟨s, HS1⟩ : ∃ s, Hid (farOf (b : Int) D = s) := ⟨_, Lib.hid rfl⟩
    obtain ⟨L2, HL2⟩ : ∃ L, Hid (lieOf (b : Int) X = L) := ⟨_, Lib.hid rfl⟩
    obtain ⟨t, HS2⟩ : ∃ s, Hid (farOf (b : Int) X = s) := ⟨_, Lib.hid rfl⟩
    obtain ⟨M, r5, HM⟩ : ∃ M r, Hid (mayS (b : Int) D = (M, r)) := ⟨_, _, Lib.hid rfl⟩
    have HF : Hid (fullS (b : Int) D = (F, fe, 0)) := Lib.hid (by unfold fullS; rw [if_pos HOK.out, HFE.out, HFF.out])
    have HF2 : Hid (fullS (b : Int) X = (F2, fe2, 0)) := Lib.hid (by unfold fullS; rw [if_pos HOK2.out, HFE2.out, HFF2.out])
    have HL : Hid (lieS (b : Int) D = (L1, s, 0)) := Lib.hid (by unfold lieS; rw [if_pos HOK.out, HL1.out, HS1.out])
    have HLL2 : Hid (lieS (b : Int) X = (L2, t, 0)) := Lib.hid (by unfold lieS; rw [if_pos HOK2.out, HL2.out, HS2.out])
    have HLT : Hid (L2.take nd = L1) := Lib.hid (by rw [← HL2.out, ← HX.out, lieOf_snoc, ← HL1.out, List.take_append_of_le_length (by rw [lieOf_length, HDL.out]; exact Nat.le_refl _), List.take_of_length_le (by rw [lieOf_length, HDL.out]; exact Nat.le_refl _)])
    have HLN1 : Hid (L1.length = nd) := Lib.hid (by rw [← HL1.out, lieOf_length, HDL.out])
    have HXN : Hid (X.length = nx) := Lib.hid (by rw [← HX.out, List.length_append, List.length_singleton, HDL.out, HNX.out])
    have HLN2 : Hid (L2.length = nx) := Lib.hid (by rw [← HL2.out, lieOf_length, HXN.out])
    have HMORE := Lib.hid (next_more (b := b) (ds := D) (k := (k : Int)) ⟨by omega, by omega⟩)
    rw [HX.out, HFE.out, HFE2.out, HFF.out, HFF2.out] at HMORE
    have HFN : Hid ((F.length : Int) + fe = (nd : Int)) := Lib.hid (by rw [← HFE.out, ← HFF.out, ← HDL.out]; unfold fellOf; omega)
    have HGN : Hid ((F2.length : Int) + fe2 = (nx : Int)) := Lib.hid (by rw [← HFE2.out, ← HFF2.out, ← HXN.out]; unfold fellOf; omega)
    go_wp2_with fail
    refine (lLieT ((b : Int)) A nd c D _ h_d (by omega) (L1) (s) (0) HL).mono ?_
    rintro e w3_ ⟨A3, n3, c3, rfl, ho3, hb3⟩
    have B3 : Below w.heap.size w w3_ := B2.trans (hb3.mono S2)
    have S3 : w.heap.size ≤ w3_.heap.size := B3.size
    replace h_d := Ri.next h_d hb3 (Nat.le_refl _) hb3.size
    replace h_x := Ri.next h_x hb3 (Nat.le_refl _) hb3.size
    clear B2 S2
    have h_a := ho3.ri
    have m_a := ho3.most
    clear ho3
    clear hb3
    obtain rfl : nd = n3 := by rw [← h_a.len, HLN1.out]
    go_wp2_with fail
    refine (lLieT ((b : Int)) (some ⟨gZ, 0, none⟩) nx capZ X _ h_x (by omega) (L2) (t) (0) HLL2).mono ?_
    rintro e w4_ ⟨A4, n4, c4, rfl, ho4, hb4⟩
    have B4 : Below w.heap.size w w4_ := B3.trans (hb4.mono S3)
    have S4 : w.heap.size ≤ w4_.heap.size := B4.size
    replace h_d := Ri.next h_d hb4 (Nat.le_refl _) hb4.size
    replace h_x := Ri.next h_x hb4 (Nat.le_refl _) hb4.size
    replace h_a := Ri.next h_a hb4 (Nat.le_refl _) hb4.size
    clear B3 S3
    have h_bl := ho4.ri
    have m_bl := ho4.most
    have k_bl := ho4.cap
    clear ho4
    clear hb4
    obtain rfl : nx = n4 := by rw [← h_bl.len, HLN2.out]
    go_wp2_with fail
    refine (lFullT ((b : Int)) A nd c D _ h_d (by omega) (F) (fe) (0) HF).mono ?_
    rintro e w5_ ⟨A5, n5, c5, rfl, ho5, hb5⟩
    have B5 : Below w.heap.size w w5_ := B4.trans (hb5.mono S4)
    have S5 : w.heap.size ≤ w5_.heap.size := B5.size
    replace h_d := Ri.next h_d hb5 (Nat.le_refl _) hb5.size
    replace h_x := Ri.next h_x hb5 (Nat.le_refl _) hb5.size
    replace h_a := Ri.next h_a hb5 (Nat.le_refl _) hb5.size
    replace h_bl := Ri.next h_bl hb5 (Nat.le_refl _) hb5.size
    clear B4 S4
    have h_f := ho5.ri
    have m_f := ho5.most
    clear ho5
    clear hb5
    go_wp2_with fail
    refine (lFullT ((b : Int)) (some ⟨gZ, 0, none⟩) nx capZ X _ h_x (by omega) (F2) (fe2) (0) HF2).mono ?_
    rintro e w6_ ⟨A6, n6, c6, rfl, ho6, hb6⟩
    have B6 : Below w.heap.size w w6_ := B5.trans (hb6.mono S5)
    have S6 : w.heap.size ≤ w6_.heap.size := B6.size
    replace h_d := Ri.next h_d hb6 (Nat.le_refl _) hb6.size
    replace h_x := Ri.next h_x hb6 (Nat.le_refl _) hb6.size
    replace h_a := Ri.next h_a hb6 (Nat.le_refl _) hb6.size
    replace h_bl := Ri.next h_bl hb6 (Nat.le_refl _) hb6.size
    replace h_f := Ri.next h_f hb6 (Nat.le_refl _) hb6.size
    clear B5 S5
    have h_g := ho6.ri
    have m_g := ho6.most
    clear ho6
    clear hb6
    clear h_x
    go_wp2_with fail
    refine (lMayT (b : Int) A nd c D _ h_d (by omega) M r5 HM).mono ?_
    rintro e w7_ ⟨A7, n7, c7, rfl, ho7, hb7⟩
    have B7 : Below w.heap.size w w7_ := B6.trans (hb7.mono S6)
    have S7 : w.heap.size ≤ w7_.heap.size := B7.size
    replace h_d := Ri.next h_d hb7 (Nat.le_refl _) hb7.size
    replace h_a := Ri.next h_a hb7 (Nat.le_refl _) hb7.size
    replace h_bl := Ri.next h_bl hb7 (Nat.le_refl _) hb7.size
    replace h_f := Ri.next h_f hb7 (Nat.le_refl _) hb7.size
    replace h_g := Ri.next h_g hb7 (Nat.le_refl _) hb7.size
    clear B6 S6
    have h_m := ho7.ri
    have m_m := ho7.most
    clear ho7
    clear hb7
    clear h_d
    obtain ⟨adb, _, hAb, _, _, _, _⟩ := h_bl.at_ (k := 0) (by have := HNX.out; omega)
    subst hAb
    have hdx : nd ≤ nx := by have := HNX.out; omega
    have htk := h_bl.take hdx
    rw [HLT.out] at htk
    have hkc : nd ≤ c4 := by omega
    have hfn : ((n5 : Nat) : Int) + fe = (nd : Int) := by rw [← h_f.len]; exact HFN.out
    have hgn : ((n6 : Nat) : Int) + fe2 = (nx : Int) := by rw [← h_g.len]; exact HGN.out
    have hf0 : 0 ≤ fe := by rw [← HFF.out]; exact fellOf_nonneg D HIN.out
    have hg0 : 0 ≤ fe2 := by rw [← HFF2.out]; exact fellOf_nonneg X HV2.out.all
    have hw1 : IntKind.i64.wrap ((n5 : Int) + fe) = (nd : Int) := by rw [hfn]; exact IntWalk.i64_in _ (by omega)
    have hw2 : IntKind.i64.wrap ((n6 : Int) + fe2) = (nx : Int) := by rw [hgn]; exact IntWalk.i64_in _ (by omega)
    have q1 : decide (n6 < n5) = false := decide_eq_false (by rw [← h_f.len, ← h_g.len]; have := HMORE.out.1; omega)
    have q2 : decide (fe2 < fe) = false := decide_eq_false (by have := HMORE.out.2; omega)
    have e4 : (nx != nx) = false := bne_self_eq_false nx
    go_wp2_with fail
    refine (aIntsT _ _ _ _ _ _ _ _ L1 L1 _ h_a htk (by omega) (by omega) true (Lib.hid (decide_eq_true rfl))).mono ?_
    rintro e w8_ ⟨rfl, hb8⟩
    have B8 : Below w.heap.size w w8_ := B7.trans (hb8.mono S7)
    have S8 : w.heap.size ≤ w8_.heap.size := B8.size
    replace h_a := Ri.next h_a hb8 (Nat.le_refl _) hb8.size
    replace h_bl := Ri.next h_bl hb8 (Nat.le_refl _) hb8.size
    replace h_f := Ri.next h_f hb8 (Nat.le_refl _) hb8.size
    replace h_g := Ri.next h_g hb8 (Nat.le_refl _) hb8.size
    replace h_m := Ri.next h_m hb8 (Nat.le_refl _) hb8.size
    clear B7 S7
    clear hb8
    clear htk
    by_cases hpos : 0 < fe
    · skip
      have HMM : Hid (M = [] ∧ r5 = 20) := Lib.hid (by
        have h := HM.out
        unfold mayS at h
        rw [if_pos HOK.out, if_pos (by rw [HFF.out]; exact hpos)] at h
        injection h with h1 h2
        exact ⟨h1.symm, h2.symm⟩)
      obtain rfl := HMM.out.1
      obtain rfl := HMM.out.2
      obtain rfl : n7 = 0 := h_m.len.symm
      have q3 : decide (0 < fe) = true := decide_eq_true hpos
      go_wp2_with fail
      refine (aWorks _).mono ?_
      rintro e w9_ ⟨rfl, hb9⟩
      have B9 : Below w.heap.size w w9_ := B8.trans (hb9.mono S8)
      have S9 : w.heap.size ≤ w9_.heap.size := B9.size
      replace h_a := Ri.next h_a hb9 (Nat.le_refl _) hb9.size
      replace h_bl := Ri.next h_bl hb9 (Nat.le_refl _) hb9.size
      replace h_f := Ri.next h_f hb9 (Nat.le_refl _) hb9.size
      replace h_g := Ri.next h_g hb9 (Nat.le_refl _) hb9.size
      replace h_m := Ri.next h_m hb9 (Nat.le_refl _) hb9.size
      clear B8 S8
      clear hb9
      go_wp2
      go_ret
      exact ⟨rfl, B9⟩
    · skip
      have HFZ : Hid (fe = 0) := Lib.hid (by omega)
      have HMM : Hid (M = mayIn (b : Int) D b ∧ r5 = 0) := Lib.hid (by
        have h := HM.out
        unfold mayS at h
        rw [if_pos HOK.out, if_neg (by rw [HFF.out]; exact hpos), show (b : Int).toNat = b by omega] at h
        injection h with h1 h2
        exact ⟨h1.symm, h2.symm⟩)
      have HFREE : Hid (fe2 = 0 ↔ ∃ y : Nat, k ≤ y ∧ y < b ∧ (y : Int) ∉ F) := Lib.hid (by
        rw [← HFF2.out, ← HX.out, ← HFE.out]
        exact next_free (by rw [HFF.out]; exact HFZ.out) hkb)
      have HMAY : Hid ((k : Int) ∈ M ↔ fe2 = 0) := Lib.hid (by
        rw [HMM.out.1, mem_mayIn, HX.out, HFF2.out]
        exact ⟨fun h => h.2.2, fun h => ⟨by omega, by omega, h⟩⟩)
      have hm8 : n7 ≤ 8 := by rw [← h_m.len, HMM.out.1]; exact Nat.le_trans (mayIn_le _ _ _) hb8
      obtain rfl := HMM.out.2
      have q3 : decide (0 < fe) = false := decide_eq_false hpos
      go_wp2
      go_loop [25, 26] (fun o i => ∃ (p : Nat) (fr : Bool), k ≤ p ∧ p ≤ b ∧ o = .bool fr ∧ i = .int .i64 p ∧ Hid (FreeB fr k p F)) (fun _ i => b - (intOf i).toNat)
      case atStart => exact ⟨k, false, Nat.le_refl _, by omega, rfl, rfl, Lib.hid ⟨fun h => (by cases h), fun ⟨y, h1, h2, _⟩ => by omega⟩⟩
      case round =>
        obtain ⟨p, fr, hp1, hp2, rfl, rfl, HFR⟩ := hrel
        by_cases hlt : p < b
        · have hd : decide (p < b) = true := decide_eq_true hlt
          cases fr
          · by_cases hm : (p : Int) ∈ F
            · have HM1 : Hid (decide ((p : Int) ∈ F) = true) := Lib.hid (decide_eq_true hm)
              have HN : Hid (FreeB false k (p + 1) F) := Lib.hid ⟨fun h => (by cases h), fun ⟨y, h1, h2, h3⟩ => by
                by_cases e : y = p
                · subst e; exact absurd hm h3
                · exact HFR.out.2 ⟨y, h1, by omega, h3⟩⟩
              clear hm
              go_wp2_with fail
              refine (has_any _ _ _ _ F (p : Int) _ h_f (by omega)).mono ?_
              rintro e w' ⟨rfl, rfl⟩
              rw [HM1.out]
              go_wp2
              go_round
              case rel => exact ⟨p + 1, false, by omega, by omega, rfl, by go_num, HN⟩
              case measure => simp [intOf]; omega
            · have HM1 : Hid (decide ((p : Int) ∈ F) = false) := Lib.hid (decide_eq_false hm)
              have HN : Hid (FreeB true k (p + 1) F) := Lib.hid ⟨fun _ => ⟨p, hp1, by omega, hm⟩, fun _ => rfl⟩
              clear hm
              go_wp2_with fail
              refine (has_any _ _ _ _ F (p : Int) _ h_f (by omega)).mono ?_
              rintro e w' ⟨rfl, rfl⟩
              rw [HM1.out]
              go_wp2
              go_round
              case rel => exact ⟨p + 1, true, by omega, by omega, rfl, by go_num, HN⟩
              case measure => simp [intOf]; omega
          · have HN : Hid (FreeB true k (p + 1) F) := Lib.hid ⟨fun _ => by
              obtain ⟨y, h1, h2, h3⟩ := HFR.out.1 rfl
              exact ⟨y, h1, by omega, h3⟩, fun _ => rfl⟩
            go_wp2
            go_round
            case rel => exact ⟨p + 1, true, by omega, by omega, rfl, by go_num, HN⟩
            case measure => simp [intOf]; omega
        · have hd : decide (p < b) = false := decide_eq_false hlt
          have HPB : Hid (p = b) := Lib.hid (by omega)
          have HFE3 : Hid (fr = true ↔ fe2 = 0) := Lib.hid (by
            have h := HFR.out
            unfold FreeB at h
            rw [HFREE.out, h, HPB.out])
          cases fr
          · have q5 : (fe2 == 0) = false := beq_eq_false_iff_ne.2 fun h => by cases HFE3.out.2 h
            have HMK : Hid (decide ((k : Int) ∈ M) = false) := Lib.hid (decide_eq_false fun h => by cases HFE3.out.2 (HMAY.out.1 h))
            go_wp2_with fail
            refine (has_any _ _ _ _ M (k : Int) _ h_m (by omega)).mono ?_
            rintro e w' ⟨rfl, rfl⟩
            rw [HMK.out]
            go_wp2_with fail
            refine (aWorks _).mono ?_
            rintro e w9_ ⟨rfl, hb9⟩
            have B9 : Below w.heap.size w w9_ := B8.trans (hb9.mono S8)
            have S9 : w.heap.size ≤ w9_.heap.size := B9.size
            replace h_a := Ri.next h_a hb9 (Nat.le_refl _) hb9.size
            replace h_bl := Ri.next h_bl hb9 (Nat.le_refl _) hb9.size
            replace h_f := Ri.next h_f hb9 (Nat.le_refl _) hb9.size
            replace h_g := Ri.next h_g hb9 (Nat.le_refl _) hb9.size
            replace h_m := Ri.next h_m hb9 (Nat.le_refl _) hb9.size
            clear B8 S8
            clear hb9
            go_wp2
            go_ret
            exact ⟨rfl, B9⟩
          · have q5 : (fe2 == 0) = true := beq_iff_eq.2 (HFE3.out.1 rfl)
            have HMK : Hid (decide ((k : Int) ∈ M) = true) := Lib.hid (decide_eq_true (HMAY.out.2 (HFE3.out.1 rfl)))
            go_wp2_with fail
            refine (has_any _ _ _ _ M (k : Int) _ h_m (by omega)).mono ?_
            rintro e w' ⟨rfl, rfl⟩
            rw [HMK.out]
            go_wp2_with fail
            refine (aWorks _).mono ?_
            rintro e w9_ ⟨rfl, hb9⟩
            have B9 : Below w.heap.size w w9_ := B8.trans (hb9.mono S8)
            have S9 : w.heap.size ≤ w9_.heap.size := B9.size
            replace h_a := Ri.next h_a hb9 (Nat.le_refl _) hb9.size
            replace h_bl := Ri.next h_bl hb9 (Nat.le_refl _) hb9.size
            replace h_f := Ri.next h_f hb9 (Nat.le_refl _) hb9.size
            replace h_g := Ri.next h_g hb9 (Nat.le_refl _) hb9.size
            replace h_m := Ri.next h_m hb9 (Nat.le_refl _) hb9.size
            clear B8 S8
            clear hb9
            go_wp2
            go_ret
            exact ⟨rfl, B9⟩

set_option maxRecDepth 100000 in
theorem LedgeNext_lifted (os : Os) (started : os.Started) (H : Type) (enc : TypeId × Value → H) :
    ReturnsInHanded {} Try.checked os 15 .any (Rows.ledgeNextSpec.pre6 enc Try.prog Try.f15 Rows.ledgeNextRow.domain false) (Rows.ledgeNextSpec.post enc Try.prog Try.f15 false true false false) := by
  refine returnsInHanded_of_change (C := Try.checked) row_own started (by kernel_rfl) Try.func15
    (ChangeSpec.witness6 (enc := enc) (C := Try.checked) false ⟨#[], #[.int .u8 0, .slice none 0 0, .int .u8 0], []⟩ 8 (by kernel_rfl) (by kernel_rfl) (by kernel_rfl) (by kernel_rfl)) ?_
  intro W base args ds gs before hval0 hW _ _
  have hval : ∀ (j : Nat) t v, Try.f15.params[j]? = some t → args[j]? = some v → Value.okWide Try.prog W .any base t v := hval0
  have hW' := hW
  obtain ⟨p, q, hA0, hV, rfl, _, _⟩ := hW
  have hA : DataW.TrodAll enc Try.prog W 0 (fun _ => true) true Try.f15.params.toList args.toList ds p := hA0
  rw [Try.params15] at hA hval
  obtain ⟨v0, v1, v2, d0, d1, d2, p0, p1, p2, rfl, rfl, rfl, h0, h1, h2⟩ := trodAll_three hA
  obtain ⟨rfl, rfl⟩ := trodVars_none hV
  clear hA0 hval0
  simp only [List.append_nil] at hW'
  have hlt : ∀ x ∈ (p0 ++ p1 ++ p2), x.block < W.heap.size := fun x hx => by simpa using hW'.lt x hx
  have a0 := fun W' (hb : Below W.heap.size W W') => row_stays (t := 5) (by kernel_rfl) (of_decide_eq_true (by kernel_rfl)) h0 (fun x hx => hlt x (by simp [hx])) hb
  have a1 := fun W' (hb : Below W.heap.size W W') => row_stays (t := 41) (by kernel_rfl) (of_decide_eq_true (by kernel_rfl)) h1 (fun x hx => hlt x (by simp [hx])) hb
  have a2 := fun W' (hb : Below W.heap.size W W') => row_stays (t := 5) (by kernel_rfl) (of_decide_eq_true (by kernel_rfl)) h2 (fun x hx => hlt x (by simp [hx])) hb
  obtain ⟨x0, rfl, _, _, wx0⟩ := open_int (P := Try.prog) (k := .u8) (t := 5) (by kernel_rfl) (hval 0 5 v0 rfl rfl) h0
  obtain ⟨A1, n1, c1, xs1, rfl, hc1, hm1, hx1, hw1⟩ := row_ints (t := 41) (e := 5) (k := .u8) (by kernel_rfl) (by kernel_rfl) (by kernel_rfl) (hval 1 41 v1 rfl rfl) h1 (fun x hx => hlt x (by simp [hx]))
  obtain ⟨x2, rfl, _, _, wx2⟩ := open_int (P := Try.prog) (k := .u8) (t := 5) (by kernel_rfl) (hval 2 5 v2 rfl rfl) h2
  refine (wNext x0 (u8_lo wx0) (u8_hi wx0) A1 n1 c1 xs1 x2 (u8_lo wx2) (u8_hi wx2) W (Ru.of_row hx1 hw1) (by omega)).mono fun e W' ⟨he, hb⟩ => ?_
  subst he
  exact ⟨_, rfl, _, _, _, [], (p0 ++ p1 ++ p2), [], hW', trodAll_mk1 (shut_bool Try.underlying4 true), (by simp only [List.append_assoc]; exact trodAll_mk3 (a0 _ hb) (a1 _ hb) (a2 _ hb)), rfl, hb.frame _, fun h => by cases h⟩
theorem LedgeNext_holds : Rows.LedgeNextSaid :=
  OpenClaim.holds_of_wide 15 Try.f15 rfl rfl rfl rfl rfl rfl rfl ⟨rfl, rfl, rfl, rfl, rfl⟩ rfl rfl rfl rfl rfl (by kernel_rfl) Try.func15 (by kernel_rfl)
    (of_decide_eq_true (by kernel_rfl)) (by unfold Func.isWrapper; first | (rw [if_pos (by decide +kernel)]; kernel_rfl) | (rw [if_neg (by decide +kernel)]; exact ⟨rfl, rfl⟩))
    (fun os started H enc _ => LedgeNext_lifted os started H enc)
#print axioms LedgeNext_holds
end Go.Proofs.Ytkeiajncmhkdmaa
