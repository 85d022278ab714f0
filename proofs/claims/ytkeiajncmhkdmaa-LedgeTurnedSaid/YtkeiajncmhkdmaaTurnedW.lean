/-
  LedgeTurned: if all drops are as many places farther, round the wheel, so are all coppers, which slide as far: for every number of places, all drops and however much farther, told by numbers; no condition.
-/
import Derived.Test.YtkeiajncmhkdmaaWorks
import Derived.Test.YtkeiajncmhkdmaaRow
import Derived.Test.YtkeiajncmhkdmaaLaw2
import Derived.Test.YtkeiajncmhkdmaaFactS
import Derived.Test.YtkeiajncmhkdmaaLib2
namespace Go.Proofs.Ytkeiajncmhkdmaa
open Go.ChangeShapes Go.WideShapes Go.ChangeAt Go.RowKit

set_option maxRecDepth 100000 in
set_option maxHeartbeats 4000000 in
theorem wTurned (x : Int) (hx0 : 0 ≤ x) (hx1 : x ≤ 255) (A1 : Option Addr) (n1 c1 : Nat) (ys1 : List Int) (m : Int) (hm0 : 0 ≤ m) (hm1 : m ≤ 255) (w : World) (h1 : Ru w w.heap.size A1 n1 ys1) (hn1 : n1 ≤ 9223372036854775807) :
    Calls Try.prog 14 #[.int .u8 x, .slice A1 n1 c1, .int .u8 m] w (RetB w true) := by
  obtain ⟨b, hbx, hb1, hb8⟩ := placed_ex hx0
  have HB := Lib.hid hbx
  clear hbx
  obtain ⟨D, HD⟩ : ∃ D, Hid (drp (b : Int) ys1 = D) := ⟨_, Lib.hid rfl⟩
  have HV : Hid (Valid (b : Int) D) := Lib.hid (by rw [← HD.out]; exact valid_drp hb1 hb8 ys1)
  have HIN : Hid (∀ d ∈ D, 0 ≤ d ∧ d < (b : Int)) := Lib.hid HV.out.all
  have HLEN : Hid (D.length ≤ 12) := Lib.hid HV.out.many
  have HOK : Hid (checkDrops (b : Int) D = 0) := Lib.hid (checkDrops_valid.2 HV.out)
  by_cases hg : b < n1
  · have hd : decide (b < n1) = true := decide_eq_true hg
    go_enter Try.func14, Try.ntmps14
    go_wp2_with fail
    refine (aPlaced x hx0 hx1 b HB _).mono ?_
    rintro e w' ⟨rfl, rfl⟩
    go_wp2_with (go_at_call 18; refine (aWorks _).mono ?_; rintro e w1 ⟨rfl, hb⟩)
    go_ret
    exact ⟨rfl, hb⟩
  · have hd : decide (b < n1) = false := decide_eq_false hg
    have h_by := h1
    have HLB : Hid (D.length ≤ b) := Lib.hid (by rw [← HD.out, drp_len, h1.len]; omega)
    go_enter Try.func14, Try.ntmps14
    go_wp2_with fail
    refine (aPlaced x hx0 hx1 b HB _).mono ?_
    rintro e w' ⟨rfl, rfl⟩
    go_wp2_with fail
    refine (aDropped b A1 n1 c1 ys1 _ h_by (by omega) hb1 hb8 D HD).mono ?_
    rintro e w1_ ⟨A, nd, c, rfl, ho1, hb1⟩
    have B1 : Below w.heap.size w w1_ := (Below.refl _ _).trans (hb1.mono (Nat.le_refl _))
    have S1 : w.heap.size ≤ w1_.heap.size := B1.size
    replace h_by := Ru.next h_by hb1 (Nat.le_refl _) hb1.size
    have h_d := ho1.ri
    have m_d := ho1.most
    clear ho1
    clear hb1
    clear h_by
    have HDL := Lib.hid h_d.len
    have hnd : nd ≤ 12 := by have h1 := HDL.out; have h2 := HLEN.out; omega
    go_wp2
    go_loopw [9, 10] (fun o i wr => ∃ (k c2 : Nat) (A2 : Option Addr), k ≤ nd ∧ i = .int .i64 k ∧ o = .slice A2 k c2 ∧ Oi wr w1_.heap.size A2 k c2 ((D.take k).map (rotI (b : Int) m)) ∧ Below w1_.heap.size w1_ wr) (fun _ i _ => nd - (intOf i).toNat)
    case atStart => exact ⟨0, 0, none, by omega, rfl, rfl, Oi.nil_ _ _, Below.refl _ _⟩
    case round =>
      obtain ⟨k, c2, A2, hk, rfl, rfl, ho, hb⟩ := hrel
      have hsz := hb.size
      by_cases hlt : k < nd
      · obtain ⟨ad, d, rfl, hadb, hc0, hdk, _⟩ := h_d.at_ hlt
        have hc : wr.cell? (ad.add k) = some (.int .i64 d) := (hb.cell (by rw [addr_block]; exact hadb)).trans hc0
        clear hc0
        have hdr := HIN.out d (List.mem_of_getElem? hdk.out)
        obtain ⟨dr0, dr1⟩ := hdr
        have HX : Hid ((D.take (k + 1)).map (rotI (b : Int) m) = (D.take k).map (rotI (b : Int) m) ++ [(d + m) % (b : Int)]) := Lib.hid (by rw [take_snoc hdk.out, List.map_append]; rfl)
        have hb1' : 1 ≤ (b : Int) := by omega
        go_wp2_with (at_builtin; refine push_int rfl (.tmp 34) (.tmp 44) rfl (w1_.heap.size) A2 k c2 ((D.take k).map (rotI (b : Int) m)) rfl (ho.alloc _) ⟨wr.heap.size, 0, none⟩ 1 _ rfl (cell_new1 _ _ _) (by omega) (by simp only [World.size_alloc]; omega) ?_; intro g cap w1 hown1 hgrow1)
        go_roundw
        case rel => exact ⟨k + 1, _, _, by omega, by go_num, rfl, by rw [HX.out]; exact hown1, ho.pushed hb hsz (Nat.le_refl _) hgrow1⟩
        case measure => simp [intOf]; omega
      · have HK : Hid (k = nd) := Lib.hid (by omega)
        obtain ⟨w4_, rfl⟩ : ∃ w4_ : World, w4_ = wr := ⟨_, rfl⟩
        have hok : Oi w4_ w1_.heap.size A2 nd c2 (D.map (rotI (b : Int) m)) := by
          have h := ho
          rw [HK.out] at h
          rwa [List.take_of_length_le (by rw [HDL.out]; exact Nat.le_refl _)] at h
        obtain rfl : nd = k := HK.out.symm
        clear ho
        have B2 : Below w.heap.size w w4_ := B1.trans (hb.mono S1)
        have S2 : w.heap.size ≤ w4_.heap.size := B2.size
        replace h_d := Ri.next h_d hb (Nat.le_refl _) hb.size
        clear B1 S1
        have h_x := hok.ri
        clear hok hb
        have HRG : Hid (∀ d ∈ D.map (rotI (b : Int) m), 0 ≤ d ∧ d < (b : Int)) := Lib.hid (fun d hd => by
          rw [List.mem_map] at hd
          obtain ⟨e, _, rfl⟩ := hd
          exact ⟨Int.emod_nonneg _ (by omega), Int.emod_lt_of_pos _ (by omega)⟩)
        have HOK2 : Hid (checkDrops (b : Int) (D.map (rotI (b : Int) m)) = 0) := Lib.hid (checkDrops_valid.2 ⟨HV.out.lo, HV.out.hi, by rw [List.length_map]; exact HV.out.many, HRG.out⟩)
        have HROT := Lib.hid (runW_rot (b := b) (m := m) D HIN.out HLB.out)
        obtain ⟨R, HRE⟩ : ∃ R, Hid ((runW true (b : Int) D).1 = R) := ⟨_, Lib.hid rfl⟩
        obtain ⟨s, HSE⟩ : ∃ s, Hid ((runW true (b : Int) D).2 = s) := ⟨_, Lib.hid rfl⟩
        have HR1 : Hid (roundS (b : Int) D = (R, s, 0)) := Lib.hid (by unfold roundS; rw [if_pos HOK.out, if_neg (by have := HLB.out; omega), HRE.out, HSE.out])
        have HR2 : Hid (roundS (b : Int) (D.map (rotI (b : Int) m)) = (R.map (rotI (b : Int) m), s, 0)) := Lib.hid (by
          unfold roundS
          rw [if_pos HOK2.out, if_neg (by rw [List.length_map]; have := HLB.out; omega), HROT.out, HRE.out, HSE.out])
        have HRR : Hid (∀ x ∈ R, 0 ≤ x ∧ x < (b : Int)) := Lib.hid (by rw [← HRE.out]; exact lieW_range D HIN.out HLB.out)
        have HRL : Hid (R.length = nd) := Lib.hid (by rw [← HRE.out, runW_len, HDL.out])
        go_wp2_with fail
        refine (lRoundT ((b : Int)) A nd c D _ h_d (by omega) (R) (s) (0) HR1).mono ?_
        rintro e w3_ ⟨A3, n3, c3, rfl, ho3, hb3⟩
        have B3 : Below w.heap.size w w3_ := B2.trans (hb3.mono S2)
        have S3 : w.heap.size ≤ w3_.heap.size := B3.size
        replace h_d := Ri.next h_d hb3 (Nat.le_refl _) hb3.size
        replace h_x := Ri.next h_x hb3 (Nat.le_refl _) hb3.size
        clear B2 S2
        have h_r := ho3.ri
        have m_r := ho3.most
        clear ho3
        clear hb3
        obtain rfl : nd = n3 := by rw [← h_r.len, HRL.out]
        go_wp2_with fail
        refine (lRoundT ((b : Int)) A2 nd c2 (D.map (rotI (b : Int) m)) _ h_x (by omega) ((R.map (rotI (b : Int) m))) (s) (0) HR2).mono ?_
        rintro e w4_ ⟨A4, n4, c4, rfl, ho4, hb4⟩
        have B4 : Below w.heap.size w w4_ := B3.trans (hb4.mono S3)
        have S4 : w.heap.size ≤ w4_.heap.size := B4.size
        replace h_d := Ri.next h_d hb4 (Nat.le_refl _) hb4.size
        replace h_x := Ri.next h_x hb4 (Nat.le_refl _) hb4.size
        replace h_r := Ri.next h_r hb4 (Nat.le_refl _) hb4.size
        clear B3 S3
        have h_t := ho4.ri
        have m_t := ho4.most
        clear ho4
        clear hb4
        obtain rfl : nd = n4 := by rw [← h_t.len, List.length_map, HRL.out]
        clear h_d h_x
        go_wp2
        go_loopw [17] (fun i wr => ∃ k d : Nat, k ≤ nd ∧ i = .int .i64 k ∧ wr = w4_.drewN d) (fun i _ => nd - (intOf i).toNat)
        case atStart => exact ⟨0, 0, Nat.zero_le _, rfl, rfl⟩
        case round =>
          obtain ⟨k2, d2, hk2, rfl, rfl⟩ := hrel
          by_cases hlt2 : k2 < nd
          · obtain ⟨ad, y, hAy, _, cy, hyk, _⟩ := h_r.at_ hlt2
            obtain ⟨ad2, y2, hAy2, _, cy2, hyk2, _⟩ := h_t.at_ hlt2
            subst hAy
            subst hAy2
            have hyr := HRR.out y (List.mem_of_getElem? hyk.out)
            obtain ⟨yr0, yr1⟩ := hyr
            have HY2 : Hid (y2 = (y + m) % (b : Int)) := Lib.hid (by
              have h1 := hyk2.out
              rw [List.getElem?_map, hyk.out] at h1
              exact (Option.some.inj h1).symm)
            obtain rfl := HY2.out
            have q1 : decide (y < 0) = false := decide_eq_false (by omega)
            have q2 : decide ((b : Int) ≤ y) = false := decide_eq_false (by omega)
            have q3 : ((y + m) % (b : Int) != (y + m) % (b : Int)) = false := bne_self_eq_false _
            have q4 : IntKind.i64.wrap (y + m) = y + m := IntWalk.i64_in _ (by omega)
            have q5 : (y + m).tmod (b : Int) = (y + m) % (b : Int) := Int.tmod_eq_emod_of_nonneg (by omega)
            go_wp2
            go_quiet (fail)
            go_wp2
            go_roundw
            case rel => exact ⟨k2 + 1, _, by omega, by go_num, rfl⟩
            case measure => simp [intOf]; omega
          · go_wp2_with fail
            refine (aWorks _).mono ?_
            rintro e wz ⟨rfl, hbz⟩
            have hbz2 : Below w4_.heap.size w4_ wz := ⟨hbz.os, hbz.tape, hbz.output, hbz.size, hbz.block⟩
            have hfin := B4.trans (hbz2.mono S4)
            clear hbz hbz2
            go_wp2
            go_ret
            exact ⟨rfl, hfin⟩

set_option maxRecDepth 100000 in
theorem LedgeTurned_lifted (os : Os) (started : os.Started) (H : Type) (enc : TypeId × Value → H) :
    ReturnsInHanded {} Try.checked os 14 .any (Rows.ledgeTurnedSpec.pre6 enc Try.prog Try.f14 Rows.ledgeTurnedRow.domain false) (Rows.ledgeTurnedSpec.post enc Try.prog Try.f14 false true false false) := by
  refine returnsInHanded_of_change (C := Try.checked) row_own started (by kernel_rfl) Try.func14
    (ChangeSpec.witness6 (enc := enc) (C := Try.checked) false ⟨#[], #[.int .u8 0, .slice none 0 0, .int .u8 0], []⟩ 8 (by kernel_rfl) (by kernel_rfl) (by kernel_rfl) (by kernel_rfl)) ?_
  intro W base args ds gs before hval0 hW _ _
  have hval : ∀ (j : Nat) t v, Try.f14.params[j]? = some t → args[j]? = some v → Value.okWide Try.prog W .any base t v := hval0
  have hW' := hW
  obtain ⟨p, q, hA0, hV, rfl, _, _⟩ := hW
  have hA : DataW.TrodAll enc Try.prog W 0 (fun _ => true) true Try.f14.params.toList args.toList ds p := hA0
  rw [Try.params14] at hA hval
  obtain ⟨v0, v1, v2, d0, d1, d2, p0, p1, p2, rfl, rfl, rfl, h0, h1, h2⟩ := trodAll_three hA
  obtain ⟨rfl, rfl⟩ := trodVars_none hV
  clear hA0 hval0
  simp only [List.append_nil] at hW'
  have hlt : ∀ x ∈ (p0 ++ p1 ++ p2), x.block < W.heap.size := fun x hx => by simpa using hW'.lt x hx
  have a0 := fun W' (hb : Below W.heap.size W W') => row_stays (t := 5) (by kernel_rfl) (of_decide_eq_true (by kernel_rfl)) h0 (fun x hx => hlt x (by simp [hx])) hb
  have a1 := fun W' (hb : Below W.heap.size W W') => row_stays (t := 41) (by kernel_rfl) (of_decide_eq_true (by kernel_rfl)) h1 (fun x hx => hlt x (by simp [hx])) hb
  have a2 := fun W' (hb : Below W.heap.size W W') => row_stays (t := 5) (by kernel_rfl) (of_decide_eq_true (by kernel_rfl)) h2 (fun x hx => hlt x (by simp [hx])) hb
  obtain ⟨x0, rfl, _, _, wx0⟩ := open_int (P := Try.prog) (k := .u8) (t := 5) (by kernel_rfl) (hval 0 5 v0 rfl rfl) h0
  obtain ⟨A1, n1, c1, xs1, rfl, hc1, hm1, hx1, hw1⟩ := row_ints (t := 41) (e := 5) (k := .u8) (by kernel_rfl) (by kernel_rfl) (by kernel_rfl) (hval 1 41 v1 rfl rfl) h1 (fun x hx => hlt x (by simp [hx]))
  obtain ⟨x2, rfl, _, _, wx2⟩ := open_int (P := Try.prog) (k := .u8) (t := 5) (by kernel_rfl) (hval 2 5 v2 rfl rfl) h2
  refine (wTurned x0 (u8_lo wx0) (u8_hi wx0) A1 n1 c1 xs1 x2 (u8_lo wx2) (u8_hi wx2) W (Ru.of_row hx1 hw1) (by omega)).mono fun e W' ⟨he, hb⟩ => ?_
  subst he
  exact ⟨_, rfl, _, _, _, [], (p0 ++ p1 ++ p2), [], hW', trodAll_mk1 (shut_bool Try.underlying4 true), (by simp only [List.append_assoc]; exact trodAll_mk3 (a0 _ hb) (a1 _ hb) (a2 _ hb)), rfl, hb.frame _, fun h => by cases h⟩
theorem LedgeTurned_holds : Rows.LedgeTurnedSaid :=
  OpenClaim.holds_of_wide 14 Try.f14 rfl rfl rfl rfl rfl rfl rfl ⟨rfl, rfl, rfl, rfl, rfl⟩ rfl rfl rfl rfl rfl (by kernel_rfl) Try.func14 (by kernel_rfl)
    (of_decide_eq_true (by kernel_rfl)) (by unfold Func.isWrapper; first | (rw [if_pos (by decide +kernel)]; kernel_rfl) | (rw [if_neg (by decide +kernel)]; exact ⟨rfl, rfl⟩))
    (fun os started H enc _ => LedgeTurned_lifted os started H enc)
#print axioms LedgeTurned_holds
end Go.Proofs.Ytkeiajncmhkdmaa
