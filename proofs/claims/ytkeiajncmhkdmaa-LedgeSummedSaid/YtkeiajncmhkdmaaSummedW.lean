/-
  LedgeSummed: all sets of as many places are left by as many rows together as there are rows of so many coppers; a set of at most 5 places is left by as many rows as there are, together, in which coppers lie at these places in any order: for every number of places, of coppers, and every set, told by numbers; no condition.
-/
import Derived.Test.YtkeiajncmhkdmaaWorks
import Derived.Test.YtkeiajncmhkdmaaRow
import Derived.Test.YtkeiajncmhkdmaaLaw2
import Derived.Test.YtkeiajncmhkdmaaLib2
import Derived.Test.YtkeiajncmhkdmaaSumP
import Derived.Test.YtkeiajncmhkdmaaOrdered
namespace Go.Proofs.Ytkeiajncmhkdmaa
open Go.ChangeShapes Go.WideShapes Go.ChangeAt Go.RowKit

theorem aOrderedT (b : Nat) (hb1 : 1 ≤ b) (hb8 : b ≤ 8) (n : Nat) (A1 : Option Addr) (l c1 : Nat) (bg : List Int) (A2 : Option Addr) (c2 : Nat) (lf : List Int) (w : World) (hx : Ri w w.heap.size A1 l bg) (hy : Ri w w.heap.size A2 n lf) (hl : l ≤ c1) (hn : n ≤ c2) (h5 : l + n ≤ 5) (HG : Hid (GoodO b (bg ++ lf))) (v : Int) (HV : Hid (ordIn n bg lf = v)) :
    Calls Try.prog 47 #[.int .i64 (b : Int), .slice A1 l c1, .slice A2 n c2] w fun e w' => e = .returned (.tuple #[.int .i64 v, .bool true]) ∧ Below w.heap.size w w' := HV.out ▸ aOrdered b hb1 hb8 n A1 l c1 bg A2 c2 lf w hx hy hl hn h5 HG
set_option maxRecDepth 100000 in
set_option maxHeartbeats 8000000 in
theorem wSummed (x : Int) (hx0 : 0 ≤ x) (hx1 : x ≤ 255) (y : Int) (hy0 : 0 ≤ y) (hy1 : y ≤ 255) (z : Int) (hz0 : 0 ≤ z) (hz1 : z ≤ 255) (w : World) : Calls Try.prog 11 #[.int .u8 x, .int .u8 y, .int .u8 z] w (RetB w true) := by
    obtain ⟨b, hbx, hb1, hb8⟩ := placed_ex hx0
    have HB := Lib.hid hbx
    clear hbx
    obtain ⟨N, HN⟩ : ∃ N : Nat, Hid (2 ^ b = N) := ⟨_, Lib.hid rfl⟩
    have hNb := pow_cases hb1 hb8
    rw [HN.out] at hNb
    obtain ⟨hN1, hN2⟩ := hNb
    have hshl : wrap64 (2 ^ b) = (N : Int) := by
      have e : ((2 : Int) ^ b) = (N : Int) := by rw [← HN.out]; simp
      rw [e]
      unfold wrap64
      omega
    obtain ⟨m, hm, hmb⟩ : ∃ m : Nat, y % ((b : Int) + 1) = (m : Int) ∧ m ≤ b := ⟨(y % ((b : Int) + 1)).toNat, by have := Int.emod_nonneg y (b := (b : Int) + 1) (by omega); omega, by have := Int.emod_lt_of_pos y (b := (b : Int) + 1) (by omega); omega⟩
    have hm1 : y.tmod ((b : Int) + 1) = (m : Int) := (Int.tmod_eq_emod_of_nonneg hy0).trans hm
    have hwb : IntKind.i64.wrap ((b : Int) + 1) = (b : Int) + 1 := IntWalk.i64_in _ (by omega)
    have hwm : IntKind.i64.wrap (m : Int) = m := IntWalk.i64_in _ (by omega)
    have hb0 : ((b : Int) + 1 == 0) = false := by simp; omega
    obtain ⟨v, hzv, hv⟩ : ∃ v : Nat, z % (N : Int) = (v : Int) ∧ v < N := ⟨(z % (N : Int)).toNat, by have := Int.emod_nonneg z (b := (N : Int)) (by omega); omega, by have := Int.emod_lt_of_pos z (b := (N : Int)) (by omega); omega⟩
    have hwv : IntKind.i64.wrap (v : Int) = v := IntWalk.i64_in _ (by omega)
    have hzv1 : z.tmod (N : Int) = (v : Int) := (Int.tmod_eq_emod_of_nonneg hz0).trans hzv
    have hNn : ((N : Int) == 0) = false := by simp; omega
    have hN0 : ¬ N = 0 := by omega
    have hv1M : v < 1048576 := by omega
    have hv256 : v < 256 := by omega
    have hm12 : m ≤ 12 := by omega
    go_enter Try.func11, Try.ntmps11
    go_wp2_with fail
    refine (aPlaced x hx0 hx1 b HB _).mono ?_
    rintro e w' ⟨rfl, rfl⟩
    go_wp2
    go_loopw [9, 10] (fun t i wr => ∃ (s : Nat) (tv : Int), s ≤ N ∧ i = .int .i64 s ∧ t = .int .i64 tv ∧ Hid (countIn (m : Int) s = tv) ∧ 0 ≤ tv ∧ tv ≤ 50000000 * (s : Int) ∧ Below w.heap.size w wr) (fun _ i _ => N - (intOf i).toNat)
    case atStart => exact ⟨0, 0, Nat.zero_le _, rfl, rfl, Lib.hid rfl, by omega, by omega, Below.refl _ _⟩
    case round =>
      obtain ⟨s, tv, hs, rfl, rfl, HT, ht0, ht1, hb⟩ := hrel
      have hsz := hb.size
      by_cases hlt : s < N
      · have hlti : (s : Int) < (N : Int) := by omega
        have hs256 : s < 256 := by omega
        have HLE : Hid (leaveS (b : Int) (listed s) = (leftAt s, 0)) := Lib.hid (leave_listed hb1 hb8 (by rw [HN.out]; exact hlt))
        have HLB := Lib.hid (leftAt_bd hs256)
        obtain ⟨lv, HLV⟩ : ∃ v, Hid (leftAt s = v) := ⟨_, Lib.hid rfl⟩
        have hl1 : 1 ≤ lv := by rw [← HLV.out]; exact HLB.out.1
        have hl2 : lv ≤ 50000000 := by rw [← HLV.out]; exact HLB.out.2
        rw [HLV.out] at HLE
        go_wp2_with fail
        refine (rListed s wr (by omega)).mono ?_
        rintro e w2 ⟨A', k, c', rfl, ho, hb2⟩
        have HKL := Lib.hid ho.len
        have hk8 : k ≤ 8 := by rw [← HKL.out]; exact listed_len
        have hb3 : Below w.heap.size w w2 := hb.trans (hb2.mono hsz)
        have h_l := ho.ri
        clear ho hb2
        by_cases hkm : k = m
        · have HY : Hid (countIn (m : Int) (s + 1) = tv + lv) := Lib.hid (by rw [countIn_yes (by rw [HKL.out, hkm]), HT.out, HLV.out])
          subst hkm
          have hkk : ((k : Int) != (k : Int)) = false := by simp
          have hwt : IntKind.i64.wrap (tv + lv) = tv + lv := IntWalk.i64_in _ (by omega)
          go_wp2_with fail
          refine (lLeaveT (b : Int) A' k c' (listed s) w2 h_l (by omega) lv 0 HLE).mono ?_
          rintro e w3 ⟨rfl, hb4⟩
          have hb5 : Below w.heap.size w w3 := hb3.trans (hb4.mono hb3.size)
          go_wp2
          go_roundw
          case rel => exact ⟨s + 1, tv + lv, by omega, by go_num, rfl, HY, by omega, by omega, hb5⟩
          case measure => simp [intOf]; omega
        · have HY : Hid (countIn (m : Int) (s + 1) = tv) := Lib.hid (by rw [countIn_no (by rw [HKL.out]; omega), HT.out])
          have hkk : ((k : Int) != (m : Int)) = true := by simp only [bne_iff_ne, ne_eq]; omega
          go_wp2
          go_roundw
          case rel => exact ⟨s + 1, tv, by omega, by go_num, rfl, HY, by omega, by omega, hb3⟩
          case measure => simp [intOf]; omega
      · skip
        obtain rfl : s = N := by omega
        have HCO : Hid (countS (b : Int) (m : Int) = (tv, 0)) := Lib.hid (by rw [count_listed hb1 hb8 hm12, HN.out, HT.out])
        have B1 : Below w.heap.size w wr := (Below.refl _ _).trans (hb.mono (Nat.le_refl _))
        have S1 : w.heap.size ≤ wr.heap.size := B1.size
        go_wp2_with fail
        refine (lCountT (b : Int) (m : Int) _ tv 0 HCO).mono ?_
        rintro e w2_ ⟨rfl, hb2⟩
        have B2 : Below w.heap.size w w2_ := B1.trans (hb2.mono S1)
        have S2 : w.heap.size ≤ w2_.heap.size := B2.size
        clear B1 S1
        clear hb2
        clear ht0 ht1 hlt hs
        go_wp2_with fail
        refine (rListed v _ hv1M).mono ?_
        rintro e w3_ ⟨A2, k2, c2, rfl, ho2, hb3⟩
        have HKL := Lib.hid ho2.len
        have hk8 : k2 ≤ 8 := by rw [← HKL.out]; exact listed_len
        have h_l := ho2.ri
        have k_l := ho2.cap
        clear ho2
        have B3 : Below w.heap.size w w3_ := B2.trans (hb3.mono S2)
        have S3 : w.heap.size ≤ w3_.heap.size := B3.size
        clear B2 S2
        by_cases h5 : 5 < k2
        · skip
          have h5i : (5 : Int) < (k2 : Int) := Int.ofNat_lt.2 h5
          go_wp2_with fail
          refine (aWorks _).mono ?_
          rintro e w4_ ⟨rfl, hb4⟩
          have B4 : Below w.heap.size w w4_ := B3.trans (hb4.mono S3)
          have S4 : w.heap.size ≤ w4_.heap.size := B4.size
          replace h_l := Ri.next h_l hb4 (Nat.le_refl _) hb4.size
          clear B3 S3
          clear hb4
          go_wp2
          go_ret
          exact ⟨rfl, B4⟩
        · skip
          have h5i : ¬ (5 : Int) < (k2 : Int) := fun h => h5 (Int.ofNat_lt.1 h)
          have HLE : Hid (leaveS (b : Int) (listed v) = (leftAt v, 0)) := Lib.hid (leave_listed hb1 hb8 (by rw [HN.out]; exact hv))
          have HOL := Lib.hid (ord_leave (s := v) hv256 (by rw [HKL.out]; exact Nat.le_of_not_lt h5))
          rw [HKL.out] at HOL
          obtain ⟨lv, HLV⟩ : ∃ v2, Hid (leftAt v = v2) := ⟨_, Lib.hid rfl⟩
          rw [HLV.out] at HLE HOL
          have HGO : Hid (GoodO b ([] ++ listed v)) := Lib.hid ⟨by simpa using listed_nodup v, by simpa using listed_in hb8 (by rw [HN.out]; exact hv)⟩
          go_wp2_with fail
          refine (lLeaveT (b : Int) A2 k2 c2 (listed v) _ h_l (Nat.le_trans hk8 (by decide)) lv 0 HLE).mono ?_
          rintro e w4_ ⟨rfl, hb4⟩
          have B4 : Below w.heap.size w w4_ := B3.trans (hb4.mono S3)
          have S4 : w.heap.size ≤ w4_.heap.size := B4.size
          replace h_l := Ri.next h_l hb4 (Nat.le_refl _) hb4.size
          clear B3 S3
          clear hb4
          go_wp2_with fail
          refine (aOrderedT b hb1 hb8 k2 none 0 0 [] A2 c2 (listed v) _ (Ri.nil_ _) h_l (Nat.le_refl _) k_l (by rw [Nat.zero_add]; exact Nat.le_of_not_lt h5) HGO lv HOL).mono ?_
          rintro e w5_ ⟨rfl, hb5⟩
          have B5 : Below w.heap.size w w5_ := B4.trans (hb5.mono S4)
          have S5 : w.heap.size ≤ w5_.heap.size := B5.size
          replace h_l := Ri.next h_l hb5 (Nat.le_refl _) hb5.size
          clear B4 S4
          clear hb5
          go_wp2_with fail
          refine (aWorks _).mono ?_
          rintro e w6_ ⟨rfl, hb6⟩
          have B6 : Below w.heap.size w w6_ := B5.trans (hb6.mono S5)
          have S6 : w.heap.size ≤ w6_.heap.size := B6.size
          replace h_l := Ri.next h_l hb6 (Nat.le_refl _) hb6.size
          clear B5 S5
          clear hb6
          go_wp2
          go_ret
          exact ⟨rfl, B6⟩

set_option maxRecDepth 100000 in
theorem LedgeSummed_lifted (os : Os) (started : os.Started) (H : Type) (enc : TypeId × Value → H) :
    ReturnsInHanded {} Try.checked os 11 .any (Rows.ledgeSummedSpec.pre6 enc Try.prog Try.f11 Rows.ledgeSummedRow.domain false) (Rows.ledgeSummedSpec.post enc Try.prog Try.f11 false true false false) := by
  refine returnsInHanded_of_change (C := Try.checked) row_own started (by kernel_rfl) Try.func11
    (ChangeSpec.witness6 (enc := enc) (C := Try.checked) false ⟨#[], #[.int .u8 0, .int .u8 0, .int .u8 0], []⟩ 8 (by kernel_rfl) (by kernel_rfl) (by kernel_rfl) (by kernel_rfl)) ?_
  intro W base args ds gs before hval0 hW _ _
  have hval : ∀ (j : Nat) t v, Try.f11.params[j]? = some t → args[j]? = some v → Value.okWide Try.prog W .any base t v := hval0
  have hW' := hW
  obtain ⟨p, q, hA0, hV, rfl, _, _⟩ := hW
  have hA : DataW.TrodAll enc Try.prog W 0 (fun _ => true) true Try.f11.params.toList args.toList ds p := hA0
  rw [Try.params11] at hA hval
  obtain ⟨v0, v1, v2, d0, d1, d2, p0, p1, p2, rfl, rfl, rfl, h0, h1, h2⟩ := trodAll_three hA
  obtain ⟨rfl, rfl⟩ := trodVars_none hV
  clear hA0 hval0
  simp only [List.append_nil] at hW'
  have hlt : ∀ x ∈ (p0 ++ p1 ++ p2), x.block < W.heap.size := fun x hx => by simpa using hW'.lt x hx
  have a0 := fun W' (hb : Below W.heap.size W W') => row_stays (t := 5) (by kernel_rfl) (of_decide_eq_true (by kernel_rfl)) h0 (fun x hx => hlt x (by simp [hx])) hb
  have a1 := fun W' (hb : Below W.heap.size W W') => row_stays (t := 5) (by kernel_rfl) (of_decide_eq_true (by kernel_rfl)) h1 (fun x hx => hlt x (by simp [hx])) hb
  have a2 := fun W' (hb : Below W.heap.size W W') => row_stays (t := 5) (by kernel_rfl) (of_decide_eq_true (by kernel_rfl)) h2 (fun x hx => hlt x (by simp [hx])) hb
  obtain ⟨x0, rfl, _, _, wx0⟩ := open_int (P := Try.prog) (k := .u8) (t := 5) (by kernel_rfl) (hval 0 5 v0 rfl rfl) h0
  obtain ⟨x1, rfl, _, _, wx1⟩ := open_int (P := Try.prog) (k := .u8) (t := 5) (by kernel_rfl) (hval 1 5 v1 rfl rfl) h1
  obtain ⟨x2, rfl, _, _, wx2⟩ := open_int (P := Try.prog) (k := .u8) (t := 5) (by kernel_rfl) (hval 2 5 v2 rfl rfl) h2
  refine (wSummed x0 (u8_lo wx0) (u8_hi wx0) x1 (u8_lo wx1) (u8_hi wx1) x2 (u8_lo wx2) (u8_hi wx2) W).mono fun e W' ⟨he, hb⟩ => ?_
  subst he
  exact ⟨_, rfl, _, _, _, [], (p0 ++ p1 ++ p2), [], hW', trodAll_mk1 (shut_bool Try.underlying4 true), (by simp only [List.append_assoc]; exact trodAll_mk3 (a0 _ hb) (a1 _ hb) (a2 _ hb)), rfl, hb.frame _, fun h => by cases h⟩
theorem LedgeSummed_holds : Rows.LedgeSummedSaid :=
  OpenClaim.holds_of_wide 11 Try.f11 rfl rfl rfl rfl rfl rfl rfl ⟨rfl, rfl, rfl, rfl, rfl⟩ rfl rfl rfl rfl rfl (by kernel_rfl) Try.func11 (by kernel_rfl)
    (of_decide_eq_true (by kernel_rfl)) (by unfold Func.isWrapper; first | (rw [if_pos (by decide +kernel)]; kernel_rfl) | (rw [if_neg (by decide +kernel)]; exact ⟨rfl, rfl⟩))
    (fun os started H enc _ => LedgeSummed_lifted os started H enc)
#print axioms LedgeSummed_holds
end Go.Proofs.Ytkeiajncmhkdmaa
