/-
  LedgeProved: no place proves that more coppers fall than do; if some fall, the place that is told proves just as many, and no place before it does: for every number of places, all drops and every place, told by numbers; no condition.
-/
import Derived.Test.YtkeiajncmhkdmaaWorks
import Derived.Test.YtkeiajncmhkdmaaRow
import Derived.Test.YtkeiajncmhkdmaaLaw2
import Derived.Test.YtkeiajncmhkdmaaFactS
import Derived.Test.YtkeiajncmhkdmaaLib2
namespace Go.Proofs.Ytkeiajncmhkdmaa
open Go.ChangeShapes Go.WideShapes Go.ChangeAt Go.RowKit

set_option maxRecDepth 100000 in
set_option maxHeartbeats 4000000 in
theorem wProved (x : Int) (hx0 : 0 ≤ x) (hx1 : x ≤ 255) (A1 : Option Addr) (n1 c1 : Nat) (ys1 : List Int) (y : Int) (hy0 : 0 ≤ y) (hy1 : y ≤ 255) (w : World) (h1 : Ru w w.heap.size A1 n1 ys1)
    (hn1 : n1 ≤ 9223372036854775807) : Calls Try.prog 8 #[.int .u8 x, .slice A1 n1 c1, .int .u8 y] w (RetB w true) := by
  by_cases hg1 : 30 < n1
  · go_enter Try.func8, Try.ntmps8
    go_wp2_with (go_at_call 18; refine (aWorks _).mono ?_; rintro e w1 ⟨rfl, hb⟩)
    go_ret
    exact ⟨rfl, hb⟩
  · skip
    have h_by := h1
    obtain ⟨b, hbx, hb1, hb8⟩ := placed_ex hx0
    have HB := Lib.hid hbx
    clear hbx
    obtain ⟨D, HD⟩ : ∃ D, Hid (drp (b : Int) ys1 = D) := ⟨_, Lib.hid rfl⟩
    have HV : Hid (Valid (b : Int) D) := Lib.hid (by rw [← HD.out]; exact valid_drp hb1 hb8 ys1)
    have HIN : Hid (∀ d ∈ D, 0 ≤ d ∧ d < (b : Int)) := Lib.hid HV.out.all
    have HLEN : Hid (D.length ≤ 12) := Lib.hid HV.out.many
    have HOK : Hid (checkDrops (b : Int) D = 0) := Lib.hid (checkDrops_valid.2 HV.out)
    obtain ⟨F, HFE⟩ : ∃ F, Hid (fullOf (b : Int) D = F) := ⟨_, Lib.hid rfl⟩
    obtain ⟨fe, HFF⟩ : ∃ fe, Hid (fellOf (b : Int) D = fe) := ⟨_, Lib.hid rfl⟩
    have HF : Hid (fullS (b : Int) D = (F, fe, 0)) := Lib.hid (by unfold fullS; rw [if_pos HOK.out, HFE.out, HFF.out])
    obtain ⟨p, HP⟩ : ∃ p : Nat, Hid (y % (b : Int) = (p : Int)) := ⟨(y % (b : Int)).toNat, Lib.hid (by have := Int.emod_nonneg y (b := (b : Int)) (by omega); omega)⟩
    have hpb : p < b := by have h1 := HP.out; have := Int.emod_lt_of_pos y (b := (b : Int)) (by omega); omega
    obtain ⟨m, HME⟩ : ∃ m, Hid (overOf (b : Int) D (p : Int) = m) := ⟨_, Lib.hid rfl⟩
    have HM : Hid (overCS (b : Int) D (p : Int) = (m, 0)) := Lib.hid (by unfold overCS; rw [if_pos HOK.out, if_neg (by omega), HME.out])
    have hmf : m ≤ fe := by rw [← HME.out, ← HFF.out]; exact over_le (by omega) D HIN.out
    have hf0 : 0 ≤ fe := by rw [← HFF.out]; exact fellOf_nonneg D HIN.out
    have hfl : fe ≤ (D.length : Int) := by rw [← HFF.out]; unfold fellOf; omega
    have hbi : 1 ≤ (b : Int) := by omega
    have hbi8 : (b : Int) ≤ 8 := by omega
    have hpm : y % (b : Int) = (p : Int) := HP.out
    go_enter Try.func8, Try.ntmps8
    go_wp2_with fail
    refine (aPlaced x hx0 hx1 b HB _).mono ?_
    rintro e w' ⟨rfl, rfl⟩
    go_wp2_with fail
    refine (aDropped b A1 n1 c1 ys1 _ h_by (by omega) hb1 hb8 D HD).mono ?_
    rintro e w1_ ⟨A, nd, c, rfl, ho1, hb1⟩
    have B1 : Below w.heap.size w w1_ := (Below.refl _ _).trans (hb1.mono (Nat.le_refl _))
    have S1 : w.heap.size ≤ w1_.heap.size := B1.size
    replace h_by := Ru.next h_by hb1 (Nat.le_refl _) hb1.size
    have h_d := ho1.ri
    have m_d := ho1.most
    clear ho1
    clear hb1
    clear h_by
    have hnd : nd ≤ 12 := by have h1 := h_d.len; have h2 := HLEN.out; omega
    have HDL := Lib.hid h_d.len
    go_wp2_with fail
    refine (lFullT ((b : Int)) A nd c D _ h_d (by omega) (F) (fe) (0) HF).mono ?_
    rintro e w2_ ⟨A2, n2, c2, rfl, ho2, hb2⟩
    have B2 : Below w.heap.size w w2_ := B1.trans (hb2.mono S1)
    have S2 : w.heap.size ≤ w2_.heap.size := B2.size
    replace h_d := Ri.next h_d hb2 (Nat.le_refl _) hb2.size
    clear B1 S1
    have h_a := ho2.ri
    have m_a := ho2.most
    clear ho2
    clear hb2
    clear h_a
    go_wp2_with fail
    refine (lCheckOverT (b : Int) A nd c D _ h_d (by omega) (p : Int) m 0 HM).mono ?_
    rintro e w3_ ⟨rfl, hb3⟩
    have B3 : Below w.heap.size w w3_ := B2.trans (hb3.mono S2)
    have S3 : w.heap.size ≤ w3_.heap.size := B3.size
    replace h_d := Ri.next h_d hb3 (Nat.le_refl _) hb3.size
    clear B2 S2
    clear hb3
    have hfn : fe ≤ (nd : Int) := by rw [← HDL.out]; exact hfl
    clear hfl
    by_cases h0 : fe = 0
    · subst h0
      have HO : Hid (overS (b : Int) D = (0, 20)) := Lib.hid (by unfold overS; rw [if_pos HOK.out]; unfold overR; rw [HFF.out]; rfl)
      have HRW : Hid (rowS (b : Int) D = 0) := Lib.hid (by unfold rowS; rw [if_pos HOK.out, HFF.out]; rfl)
      go_wp2_with fail
      refine (lOverT (b : Int) A nd c D _ h_d (by omega) 0 20 HO).mono ?_
      rintro e w4_ ⟨rfl, hb4⟩
      have B4 : Below w.heap.size w w4_ := B3.trans (hb4.mono S3)
      have S4 : w.heap.size ≤ w4_.heap.size := B4.size
      replace h_d := Ri.next h_d hb4 (Nat.le_refl _) hb4.size
      clear B3 S3
      clear hb4
      go_wp2_with fail
      refine (lCheckRowT (b : Int) A nd c D _ h_d (by omega) 0 HRW).mono ?_
      rintro e w5_ ⟨rfl, hb5⟩
      have B5 : Below w.heap.size w w5_ := B4.trans (hb5.mono S4)
      have S5 : w.heap.size ≤ w5_.heap.size := B5.size
      replace h_d := Ri.next h_d hb5 (Nat.le_refl _) hb5.size
      clear B4 S4
      clear hb5
      go_wp2_with fail
      refine (aWorks _).mono ?_
      rintro e w6_ ⟨rfl, hb6⟩
      have B6 : Below w.heap.size w w6_ := B5.trans (hb6.mono S5)
      have S6 : w.heap.size ≤ w6_.heap.size := B6.size
      replace h_d := Ri.next h_d hb6 (Nat.le_refl _) hb6.size
      clear B5 S5
      clear hb6
      go_wp2
      go_ret
      exact ⟨rfl, B6⟩
    · have hpos : 0 < fe := by omega
      have HNE := Lib.hid h0
      have hne : (fe == 0) = false := beq_eq_false_iff_ne.2 h0
      clear h0
      obtain ⟨o, ho1, ho2, ho3⟩ := first_over HV.out (by rw [HFF.out]; exact hpos)
      have HO : Hid (overS (b : Int) D = ((o : Int), 0)) := Lib.hid (by unfold overS; rw [if_pos HOK.out]; unfold overR; rw [HFF.out, if_pos hpos, ← HFF.out]; exact ho2)
      have HRW : Hid (rowS (b : Int) D = 20) := Lib.hid (by unfold rowS; rw [if_pos HOK.out, HFF.out]; unfold rowErrS; rw [if_pos hpos])
      have HMO : Hid (overCS (b : Int) D (o : Int) = (fe, 0)) := Lib.hid (by unfold overCS; rw [if_pos HOK.out, if_neg (by omega), ← HFF.out, ho3.1])
      have HBEF : Hid (p < o → m ≠ fe) := Lib.hid (fun h => by rw [← HME.out, ← HFF.out]; exact ho3.2 p h)
      clear ho2 ho3
      go_wp2_with fail
      refine (lOverT (b : Int) A nd c D _ h_d (by omega) (o : Int) 0 HO).mono ?_
      rintro e w4_ ⟨rfl, hb4⟩
      have B4 : Below w.heap.size w w4_ := B3.trans (hb4.mono S3)
      have S4 : w.heap.size ≤ w4_.heap.size := B4.size
      replace h_d := Ri.next h_d hb4 (Nat.le_refl _) hb4.size
      clear B3 S3
      clear hb4
      go_wp2_with fail
      refine (lCheckRowT (b : Int) A nd c D _ h_d (by omega) 20 HRW).mono ?_
      rintro e w5_ ⟨rfl, hb5⟩
      have B5 : Below w.heap.size w w5_ := B4.trans (hb5.mono S4)
      have S5 : w.heap.size ≤ w5_.heap.size := B5.size
      replace h_d := Ri.next h_d hb5 (Nat.le_refl _) hb5.size
      clear B4 S4
      clear hb5
      go_wp2_with fail
      refine (lCheckOverT (b : Int) A nd c D _ h_d (by omega) (o : Int) fe 0 HMO).mono ?_
      rintro e w6_ ⟨rfl, hb6⟩
      have B6 : Below w.heap.size w w6_ := B5.trans (hb6.mono S5)
      have S6 : w.heap.size ≤ w6_.heap.size := B6.size
      replace h_d := Ri.next h_d hb6 (Nat.le_refl _) hb6.size
      clear B5 S5
      clear hb6
      by_cases hpo : o ≤ p
      · have hd1 : decide (o ≤ p) = true := decide_eq_true hpo
        go_wp2_with fail
        refine (aWorks _).mono ?_
        rintro e w7_ ⟨rfl, hb7⟩
        have B7 : Below w.heap.size w w7_ := B6.trans (hb7.mono S6)
        have S7 : w.heap.size ≤ w7_.heap.size := B7.size
        replace h_d := Ri.next h_d hb7 (Nat.le_refl _) hb7.size
        clear B6 S6
        clear hb7
        go_wp2
        go_ret
        exact ⟨rfl, B7⟩
      · have hd1 : decide (o ≤ p) = false := decide_eq_false hpo
        have hlt : m < fe := by have := HBEF.out (by omega); omega
        go_wp2_with fail
        refine (aWorks _).mono ?_
        rintro e w7_ ⟨rfl, hb7⟩
        have B7 : Below w.heap.size w w7_ := B6.trans (hb7.mono S6)
        have S7 : w.heap.size ≤ w7_.heap.size := B7.size
        replace h_d := Ri.next h_d hb7 (Nat.le_refl _) hb7.size
        clear B6 S6
        clear hb7
        go_wp2
        go_ret
        exact ⟨rfl, B7⟩

set_option maxRecDepth 100000 in
theorem LedgeProved_lifted (os : Os) (started : os.Started) (H : Type) (enc : TypeId × Value → H) :
    ReturnsInHanded {} Try.checked os 8 .any (Rows.ledgeProvedSpec.pre6 enc Try.prog Try.f8 Rows.ledgeProvedRow.domain false) (Rows.ledgeProvedSpec.post enc Try.prog Try.f8 false true false false) := by
  refine returnsInHanded_of_change (C := Try.checked) row_own started (by kernel_rfl) Try.func8
    (ChangeSpec.witness6 (enc := enc) (C := Try.checked) false ⟨#[], #[.int .u8 0, .slice none 0 0, .int .u8 0], []⟩ 8 (by kernel_rfl) (by kernel_rfl) (by kernel_rfl) (by kernel_rfl)) ?_
  intro W base args ds gs before hval0 hW _ _
  have hval : ∀ (j : Nat) t v, Try.f8.params[j]? = some t → args[j]? = some v → Value.okWide Try.prog W .any base t v := hval0
  have hW' := hW
  obtain ⟨p, q, hA0, hV, rfl, _, _⟩ := hW
  have hA : DataW.TrodAll enc Try.prog W 0 (fun _ => true) true Try.f8.params.toList args.toList ds p := hA0
  rw [Try.params8] at hA hval
  obtain ⟨v0, v1, v2, d0, d1, d2, p0, p1, p2, rfl, rfl, rfl, h0, h1, h2⟩ := trodAll_three hA
  obtain ⟨rfl, rfl⟩ := trodVars_none hV
  clear hA0 hval0
  simp only [List.append_nil] at hW'
  have hlt : ∀ x ∈ (p0 ++ p1 ++ p2), x.block < W.heap.size := fun x hx => by simpa using hW'.lt x hx
  have a0 := fun W' (hb : Below W.heap.size W W') => row_stays (t := 5) (by kernel_rfl) (of_decide_eq_true (by kernel_rfl)) h0 (fun x hx => hlt x (by simp [hx])) hb
  have a1 := fun W' (hb : Below W.heap.size W W') => row_stays (t := 41) (by kernel_rfl) (of_decide_eq_true (by kernel_rfl)) h1 (fun x hx => hlt x (by simp [hx])) hb
  have a2 := fun W' (hb : Below W.heap.size W W') => row_stays (t := 5) (by kernel_rfl) (of_decide_eq_true (by kernel_rfl)) h2 (fun x hx => hlt x (by simp [hx])) hb
  obtain ⟨x0, rfl, _, _, wx0⟩ := open_int (P := Try.prog) (k := .u8) (t := 5) (by kernel_rfl) (hval 0 5 v0 rfl rfl) h0
  obtain ⟨A1, n1, c1, xs1, rfl, hc1, hm1, hx1, hw1⟩ := row_ints (t := 41) (e := 5) (k := .u8) (by kernel_rfl) (by kernel_rfl) (by kernel_rfl) (hval 1 41 v1 rfl rfl) h1 (fun x hx => hlt x (by simp [hx]))
  obtain ⟨x2, rfl, _, _, wx2⟩ := open_int (P := Try.prog) (k := .u8) (t := 5) (by kernel_rfl) (hval 2 5 v2 rfl rfl) h2
  refine (wProved x0 (u8_lo wx0) (u8_hi wx0) A1 n1 c1 xs1 x2 (u8_lo wx2) (u8_hi wx2) W (Ru.of_row hx1 hw1) (by omega)).mono fun e W' ⟨he, hb⟩ => ?_
  subst he
  exact ⟨_, rfl, _, _, _, [], (p0 ++ p1 ++ p2), [], hW', trodAll_mk1 (shut_bool Try.underlying4 true), (by simp only [List.append_assoc]; exact trodAll_mk3 (a0 _ hb) (a1 _ hb) (a2 _ hb)), rfl, hb.frame _, fun h => by cases h⟩
theorem LedgeProved_holds : Rows.LedgeProvedSaid :=
  OpenClaim.holds_of_wide 8 Try.f8 rfl rfl rfl rfl rfl rfl rfl ⟨rfl, rfl, rfl, rfl, rfl⟩ rfl rfl rfl rfl rfl (by kernel_rfl) Try.func8 (by kernel_rfl)
    (of_decide_eq_true (by kernel_rfl)) (by unfold Func.isWrapper; first | (rw [if_pos (by decide +kernel)]; kernel_rfl) | (rw [if_neg (by decide +kernel)]; exact ⟨rfl, rfl⟩))
    (fun os started H enc _ => LedgeProved_lifted os started H enc)
#print axioms LedgeProved_holds
end Go.Proofs.Ytkeiajncmhkdmaa
