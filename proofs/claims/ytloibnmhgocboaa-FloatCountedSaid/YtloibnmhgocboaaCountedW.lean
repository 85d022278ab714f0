/-
  FloatCounted: an amount can be paid in as many ways as without the last kind, and as the amount less the value of the last kind, together; it can be paid just if there is a way: for every list of coins and every amount, told by a number; no condition.
-/
import Derived.Test.YtloibnmhgocboaaWorks
import Derived.Test.YtloibnmhgocboaaRow
import Derived.Test.YtloibnmhgocboaaLw2
import Derived.Test.YtloibnmhgocboaaR1
import Derived.Test.YtloibnmhgocboaaR2
import Derived.Test.YtloibnmhgocboaaR3
import Derived.Test.YtloibnmhgocboaaR4
import Derived.Test.YtloibnmhgocboaaR5
import Derived.Test.YtloibnmhgocboaaR6
import Derived.Test.YtloibnmhgocboaaR7
import Derived.Test.YtloibnmhgocboaaR8
namespace Go.Proofs.Ytloibnmhgocboaa
open Go.Shelf Go.ChangeShapes Go.WideShapes Go.ChangeAt Go.RowKit

set_option maxRecDepth 100000 in
set_option maxHeartbeats 4000000 in
theorem wCounted (A : Option Addr) (n c : Nat) (cs : List Int) (x : Int) (hx0 : 0 ≤ x) (hx1 : x ≤ 65535) (w : World) (hx : Ri w w.heap.size A n cs) (hc : n ≤ c) :
    Calls Try.prog 13 #[.slice A n c, .int .u16 x] w (RetB w true) := by
  by_cases hf : checkCoins cs = 0
  · have HF : Hid (decide (checkCoins cs = 0) = true) := Lib.hid (decide_eq_true hf)
    have HG : Hid (Good cs) := Lib.hid (checkCoins_good.1 hf)
    have HL := Lib.hid hx.len
    have hn1 : 1 ≤ n := by rw [← HL.out]; exact HG.out.lo
    have hn5 : n ≤ 5 := by rw [← HL.out]; exact HG.out.hi
    clear hf
    obtain ⟨N, HN⟩ : ∃ N : Nat, Hid (x % 301 = (N : Int)) := ⟨(x % 301).toNat, Lib.hid (by omega)⟩
    have hN : N ≤ 300 := by have := HN.out; omega
    have HAN : Hid (amountE cs (N : Int) = 0) := Lib.hid (amountE_nat HG.out hN)
    have HWF := Lib.hid (ways_facts HG.out hN)
    obtain ⟨wv, HWV⟩ : ∃ v, Hid (ways cs N = v) := ⟨_, Lib.hid rfl⟩
    have hw0 : 0 ≤ wv := by rw [← HWV.out]; exact HWF.out.2.1
    have hw1 : wv ≤ 8208541201 := by rw [← HWV.out]; exact HWF.out.2.2.1
    have HW : Hid (waysS cs (N : Int) = (wv, 0)) := Lib.hid (by rw [HWF.out.1, HWV.out])
    obtain ⟨m, HP⟩ : ∃ m, Hid (paidV cs (N : Int) = (m, decide (0 < wv))) := by
      refine ⟨(paidV cs (N : Int)).1, Lib.hid (Prod.ext rfl ?_)⟩
      have h := HWF.out.2.2.2
      rw [HWV.out] at h
      unfold paidV
      rw [Int.toNat_natCast]
      split <;> simp <;> omega
    obtain ⟨p, HM⟩ : ∃ p, Hid (n = p + 1) := ⟨n - 1, Lib.hid (by omega)⟩
    have hp : p < n := by rw [HM.out]; omega
    have hp1 : p + 1 = n := HM.out.symm
    have hi2 : (n : Int) - 1 = p := by rw [HM.out]; omega
    have hi3 : IntKind.i64.wrap (p : Int) = p := IntWalk.i64_in _ (by omega)
    have HPN : Hid (cs.length - 1 = p) := Lib.hid (by rw [HL.out]; omega)
    obtain ⟨ad, z, rfl, hadb, hcz, hz, _⟩ := hx.at_ hp
    have HZ : Hid (nth cs p = z) := Lib.hid (nth_some hz.out)
    have hz1 : 1 ≤ z := HG.out.pos z (List.mem_of_getElem? hz.out)
    have hz50 : z ≤ 50 := (HG.out.all z (List.mem_of_getElem? hz.out)).2
    have HWI := Lib.hid (ways_init HG.out N)
    rw [HPN.out, HZ.out, HWV.out] at HWI
    have h_d := hx
    go_enter Try.func13, Try.ntmps13
    go_wp2_with fail
    refine (aFin (some ad) n c _ cs _ h_d _ HF).mono ?_
    rintro e w1_ ⟨rfl, d1, hd1⟩
    have hb1 : Below w.heap.size w w1_ := hd1 ▸ below_drewN (Below.refl _ _) _
    clear hd1
    have B1 : Below w.heap.size w w1_ := (Below.refl _ _).trans (hb1.mono (Nat.le_refl _))
    have S1 : w.heap.size ≤ w1_.heap.size := B1.size
    replace h_d := Ri.next h_d hb1 (Nat.le_refl _) hb1.size
    clear hb1
    go_wp2_with fail
    refine (aAmt x hx0 hx1 N HN _).mono ?_
    rintro e w' ⟨rfl, rfl⟩
    go_wp2_with fail
    refine (fWaysT (some ad) n c cs (N : Int) _ h_d (by omega) hc wv 0 HW).mono ?_
    rintro e w2_ ⟨rfl, hb2⟩
    have B2 : Below w.heap.size w w2_ := B1.trans (hb2.mono S1)
    have S2 : w.heap.size ≤ w2_.heap.size := B2.size
    replace h_d := Ri.next h_d hb2 (Nat.le_refl _) hb2.size
    clear B1 S1
    clear hb2
    go_wp2_with fail
    refine (aPaid (some ad) n c cs (N : Int) _ h_d (by omega) hc HAN m (decide (0 < wv)) HP).mono ?_
    rintro e w3_ ⟨rfl, hb3⟩
    have B3 : Below w.heap.size w w3_ := B2.trans (hb3.mono S2)
    have S3 : w.heap.size ≤ w3_.heap.size := B3.size
    replace h_d := Ri.next h_d hb3 (Nat.le_refl _) hb3.size
    clear B2 S2
    clear hb3
    have hcz2 : w3_.cell? (ad.add p) = some (.int .i64 z) := (B3.cell (by rw [addr_block]; exact hadb)).trans hcz
    by_cases hlz : z ≤ N
    · skip
      obtain ⟨q, HQ⟩ : ∃ q : Nat, Hid (N - z.toNat = q) := ⟨_, Lib.hid rfl⟩
      have hq : q ≤ 300 := by rw [← HQ.out]; omega
      have hs1 : (N : Int) - z = q := by rw [← HQ.out]; omega
      have hs2 : IntKind.i64.wrap (q : Int) = q := IntWalk.i64_in _ (by omega)
      have HQF := Lib.hid (ways_facts HG.out hq)
      obtain ⟨y, HY⟩ : ∃ y, Hid (ways cs q = y) := ⟨_, Lib.hid rfl⟩
      have hy0 : 0 ≤ y := by rw [← HY.out]; exact HQF.out.2.1
      have hy1 : y ≤ 8208541201 := by rw [← HY.out]; exact HQF.out.2.2.1
      have HWY : Hid (waysS cs (q : Int) = (y, 0)) := Lib.hid (by rw [HQF.out.1, HY.out])
      have hs3 : IntKind.i64.wrap y = y := IntWalk.i64_in _ (by omega)
      go_wp2_with fail
      refine (fWaysT (some ad) n c cs (q : Int) _ h_d (by omega) hc y 0 HWY).mono ?_
      rintro e w4_ ⟨rfl, hb4⟩
      have B4 : Below w.heap.size w w4_ := B3.trans (hb4.mono S3)
      have S4 : w.heap.size ≤ w4_.heap.size := B4.size
      replace h_d := Ri.next h_d hb4 (Nat.le_refl _) hb4.size
      clear B3 S3
      clear hb4
      by_cases h1 : n = 1
      · skip
        have HE : wv = y := by
          have h := HWI.out
          rw [if_pos (by rw [HL.out, h1]), if_neg (by omega), if_pos (by omega), HQ.out, HY.out] at h
          omega
        subst HE
        have hN0 : ((N : Int) == 0) = false := by simp; omega
        go_wp2_with fail
        refine (aWorks _).mono ?_
        rintro e w5_ ⟨rfl, hb5⟩
        have B5 : Below w.heap.size w w5_ := B4.trans (hb5.mono S4)
        have S5 : w.heap.size ≤ w5_.heap.size := B5.size
        replace h_d := Ri.next h_d hb5 (Nat.le_refl _) hb5.size
        clear B4 S4
        clear hb5
        go_wp2
        go_ret
        exact ⟨rfl, B5⟩
      · have hn1f : ((n : Int) == 1) = false := by simp; omega
        have HGT : Hid (Good (cs.take p)) := Lib.hid (HG.out.take_ (by omega))
        have HTF := Lib.hid (ways_facts HGT.out hN)
        obtain ⟨u, HU⟩ : ∃ u, Hid (ways (cs.take p) N = u) := ⟨_, Lib.hid rfl⟩
        have hu0 : 0 ≤ u := by rw [← HU.out]; exact HTF.out.2.1
        have hu1 : u ≤ 8208541201 := by rw [← HU.out]; exact HTF.out.2.2.1
        have HWU : Hid (waysS (cs.take p) (N : Int) = (u, 0)) := Lib.hid (by rw [HTF.out.1, HU.out])
        have hpc : p ≤ c := by omega
        have hpn : p ≤ n := by omega
        have h_t := Ri.take_ h_d hpn
        go_wp2_with fail
        refine (fWaysT (some ad) p c (cs.take p) (N : Int) _ h_t (by omega) hpc u 0 HWU).mono ?_
        rintro e w5_ ⟨rfl, hb5⟩
        have B5 : Below w.heap.size w w5_ := B4.trans (hb5.mono S4)
        have S5 : w.heap.size ≤ w5_.heap.size := B5.size
        replace h_d := Ri.next h_d hb5 (Nat.le_refl _) hb5.size
        replace h_t := Ri.next h_t hb5 (Nat.le_refl _) hb5.size
        clear B4 S4
        clear hb5
        clear h_t
        have HE : wv = y + u := by
          have h := HWI.out
          rw [if_neg (by rw [HL.out]; exact h1), if_pos (by omega), HQ.out, HY.out, HU.out] at h
          omega
        have hs4 : IntKind.i64.wrap (y + u) = y + u := IntWalk.i64_in _ (by omega)
        subst HE
        go_wp2_with fail
        refine (aWorks _).mono ?_
        rintro e w6_ ⟨rfl, hb6⟩
        have B6 : Below w.heap.size w w6_ := B5.trans (hb6.mono S5)
        have S6 : w.heap.size ≤ w6_.heap.size := B6.size
        replace h_d := Ri.next h_d hb6 (Nat.le_refl _) hb6.size
        clear B5 S5
        clear hb6
        go_wp2
        go_ret
        exact ⟨rfl, B6⟩
    · skip
      by_cases h1 : n = 1
      · by_cases h0 : N = 0
        · skip
          subst h1
          obtain rfl : p = 0 := by omega
          rw [addr_zero] at hcz2
          have HE : wv = 1 := by
            have h := HWI.out
            rw [if_pos HL.out, if_pos h0, if_neg (by omega)] at h
            omega
          subst HE
          subst h0
          go_wp2_with fail
          refine (aWorks _).mono ?_
          rintro e w4_ ⟨rfl, hb4⟩
          have B4 : Below w.heap.size w w4_ := B3.trans (hb4.mono S3)
          have S4 : w.heap.size ≤ w4_.heap.size := B4.size
          replace h_d := Ri.next h_d hb4 (Nat.le_refl _) hb4.size
          clear B3 S3
          clear hb4
          go_wp2
          go_ret
          exact ⟨rfl, B4⟩
        · skip
          subst h1
          obtain rfl : p = 0 := by omega
          rw [addr_zero] at hcz2
          have HE : wv = 0 := by
            have h := HWI.out
            rw [if_pos HL.out, if_neg h0, if_neg (by omega)] at h
            omega
          subst HE
          have hN0 : ((N : Int) == 0) = false := by simp; omega
          go_wp2_with fail
          refine (aWorks _).mono ?_
          rintro e w4_ ⟨rfl, hb4⟩
          have B4 : Below w.heap.size w w4_ := B3.trans (hb4.mono S3)
          have S4 : w.heap.size ≤ w4_.heap.size := B4.size
          replace h_d := Ri.next h_d hb4 (Nat.le_refl _) hb4.size
          clear B3 S3
          clear hb4
          go_wp2
          go_ret
          exact ⟨rfl, B4⟩
      · have hn1f : ((n : Int) == 1) = false := by simp; omega
        have HGT : Hid (Good (cs.take p)) := Lib.hid (HG.out.take_ (by omega))
        have HTF := Lib.hid (ways_facts HGT.out hN)
        obtain ⟨u, HU⟩ : ∃ u, Hid (ways (cs.take p) N = u) := ⟨_, Lib.hid rfl⟩
        have hu0 : 0 ≤ u := by rw [← HU.out]; exact HTF.out.2.1
        have hu1 : u ≤ 8208541201 := by rw [← HU.out]; exact HTF.out.2.2.1
        have HWU : Hid (waysS (cs.take p) (N : Int) = (u, 0)) := Lib.hid (by rw [HTF.out.1, HU.out])
        have hpc : p ≤ c := by omega
        have hpn : p ≤ n := by omega
        have h_t := Ri.take_ h_d hpn
        go_wp2_with fail
        refine (fWaysT (some ad) p c (cs.take p) (N : Int) _ h_t (by omega) hpc u 0 HWU).mono ?_
        rintro e w4_ ⟨rfl, hb4⟩
        have B4 : Below w.heap.size w w4_ := B3.trans (hb4.mono S3)
        have S4 : w.heap.size ≤ w4_.heap.size := B4.size
        replace h_d := Ri.next h_d hb4 (Nat.le_refl _) hb4.size
        replace h_t := Ri.next h_t hb4 (Nat.le_refl _) hb4.size
        clear B3 S3
        clear hb4
        clear h_t
        have HE : wv = u := by
          have h := HWI.out
          rw [if_neg (by rw [HL.out]; exact h1), if_neg (by omega), HU.out] at h
          omega
        have hs4 : IntKind.i64.wrap u = u := IntWalk.i64_in _ (by omega)
        subst HE
        go_wp2_with fail
        refine (aWorks _).mono ?_
        rintro e w5_ ⟨rfl, hb5⟩
        have B5 : Below w.heap.size w w5_ := B4.trans (hb5.mono S4)
        have S5 : w.heap.size ≤ w5_.heap.size := B5.size
        replace h_d := Ri.next h_d hb5 (Nat.le_refl _) hb5.size
        clear B4 S4
        clear hb5
        go_wp2
        go_ret
        exact ⟨rfl, B5⟩
  · have HF : Hid (decide (checkCoins cs = 0) = false) := Lib.hid (decide_eq_false hf)
    go_enter Try.func13, Try.ntmps13
    go_wp2_with fail
    refine (aFin A n c _ cs _ hx _ HF).mono ?_
    rintro e w1 ⟨rfl, d, rfl⟩
    go_wp2_with fail
    refine (aWorks _).mono ?_
    rintro e w2 ⟨rfl, hb⟩
    go_wp2
    go_ret
    exact ⟨rfl, below_d hb⟩

set_option maxRecDepth 100000 in
theorem FloatCounted_lifted (os : Os) (started : os.Started) (H : Type) (enc : TypeId × Value → H) :
    ReturnsInHanded {} Try.checked os 13 .any (Rows.floatCountedSpec.pre6 enc Try.prog Try.f13 Rows.floatCountedRow.domain false) (Rows.floatCountedSpec.post enc Try.prog Try.f13 false true false false) := by
  refine returnsInHanded_of_change (C := Try.checked) row_own started (by kernel_rfl) Try.func13
    (ChangeSpec.witness6 (enc := enc) (C := Try.checked) false ⟨#[], #[.slice none 0 0, .int .u16 0], []⟩ 8 (by kernel_rfl) (by kernel_rfl) (by kernel_rfl) (by kernel_rfl)) ?_
  intro W base args ds gs before hval0 hW _ _
  have hval : ∀ (j : Nat) t v, Try.f13.params[j]? = some t → args[j]? = some v → Value.okWide Try.prog W .any base t v := hval0
  have hW' := hW
  obtain ⟨p, q, hA0, hV, rfl, _, _⟩ := hW
  have hA : DataW.TrodAll enc Try.prog W 0 (fun _ => true) true Try.f13.params.toList args.toList ds p := hA0
  rw [Try.params13] at hA hval
  obtain ⟨v0, v1, d0, d1, p0, p1, rfl, rfl, rfl, h0, h1⟩ := trodAll_two hA
  obtain ⟨rfl, rfl⟩ := trodVars_none hV
  clear hA0 hval0
  simp only [List.append_nil] at hW'
  have hlt : ∀ x ∈ (p0 ++ p1), x.block < W.heap.size := fun x hx => by simpa using hW'.lt x hx
  have a0 := fun W' (hb : Below W.heap.size W W') => row_stays (t := 22) (by kernel_rfl) (of_decide_eq_true (by kernel_rfl)) h0 (fun x hx => hlt x (by simp [hx])) hb
  have a1 := fun W' (hb : Below W.heap.size W W') => row_stays (t := 44) (by kernel_rfl) (of_decide_eq_true (by kernel_rfl)) h1 (fun x hx => hlt x (by simp [hx])) hb
  obtain ⟨A0, n0, c0, xs0, rfl, hc0, hm0, hx0, hw0⟩ := row_ints (t := 22) (e := 2) (k := .i64) (by kernel_rfl) (by kernel_rfl) (by kernel_rfl) (hval 0 22 v0 rfl rfl) h0 (fun x hx => hlt x (by simp [hx]))
  obtain ⟨x1, rfl, _, _, wx1⟩ := open_int (P := Try.prog) (k := .u16) (t := 44) (by kernel_rfl) (hval 1 44 v1 rfl rfl) h1
  refine (wCounted A0 n0 c0 xs0 x1 (u16_lo wx1) (u16_hi wx1) W hx0 hc0).mono fun e W' ⟨he, hb⟩ => ?_
  subst he
  exact ⟨_, rfl, _, _, _, [], (p0 ++ p1), [], hW', trodAll_mk1 (shut_bool Try.underlying4 true), trodAll_mk2 (a0 _ hb) (a1 _ hb), rfl, hb.frame _, fun h => by cases h⟩
theorem FloatCounted_holds : Rows.FloatCountedSaid :=
  OpenClaim.holds_of_wide 13 Try.f13 rfl rfl rfl rfl rfl rfl rfl ⟨rfl, rfl, rfl, rfl, rfl⟩ rfl rfl rfl rfl rfl (by kernel_rfl) Try.func13 (by kernel_rfl)
    (of_decide_eq_true (by kernel_rfl)) (by unfold Func.isWrapper; first | (rw [if_pos (by decide +kernel)]; kernel_rfl) | (rw [if_neg (by decide +kernel)]; exact ⟨rfl, rfl⟩))
    (fun os started H enc _ => FloatCounted_lifted os started H enc)
#print axioms FloatCounted_holds
end Go.Proofs.Ytloibnmhgocboaa
