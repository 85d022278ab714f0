/-
  RoundLengths: the least length of a round that is in time, the first such round, and how many are in time, are what the definitions say, or the error: for every pier; no condition.
-/
import Derived.Test.YtaekjnjignlmoaaWorks
import Derived.Test.YtaekjnjignlmoaaRowP
import Derived.Test.YtaekjnjignlmoaaWl
import Derived.Test.YtaekjnjignlmoaaAl
import Derived.Test.YtaekjnjignlmoaaR10
namespace Go.Proofs.Ytaekjnjignlmoaa
open Go.Shelf Go.ChangeShapes Go.WideShapes Go.ChangeAt Go.RowKit

theorem shortest_len0 (b : Int) (ps : List (Int × Int)) : (shortestS b ps).1.length ≤ 10 := by
  by_cases h : checkPier b ps = 0
  · exact shortest_len (checkPier_ok.1 h)
  · unfold shortestS
    rw [if_neg h]
    simp
set_option maxRecDepth 100000 in
set_option maxHeartbeats 8000000 in
theorem wLengths (b : Int) (A : Option Addr) (n c : Nat) (ps : List (Int × Int)) (w : World) (hx : Rp w w.heap.size A n ps) (hc : n ≤ c) :
    Calls Try.prog 4 #[.agg #[.int .i64 b, .slice A n c]] w (RetB w true) := by
  have h_p := hx
  by_cases hg : 14 < n
  · have HG : Hid (decide (14 < n) = true) := Lib.hid (decide_eq_true hg)
    have k1 := Bk.new w 24 #[.int .i64 b, .slice A n c]
    have hb : Below w.heap.size w (w.alloc (.cells #[.int .i64 b, .slice A n c] 24)) := (Below.refl _ _).alloc (Nat.le_refl _) _
    have d0 := k1.cell 0
    have d1 := k1.cell 1
    go_enter Try.func4, Try.ntmps4
    go_wp2_with fail
    clear d0 d1
    obtain ⟨u1, hu⟩ : ∃ k, w.heap.size = k := ⟨_, rfl⟩
    obtain ⟨w1, hW⟩ : ∃ W, w.alloc (.cells #[.int .i64 b, .slice A n c] 24) = W := ⟨_, rfl⟩
    rw [hW] at k1 hb ⊢
    rw [hu] at k1 ⊢
    clear hW hu
    have Bw1 : Below w.heap.size w w1 := hb
    replace h_p := h_p.next hb (Nat.le_refl _) hb.size
    clear hb
    refine (aGreat b A n c _ true HG).mono ?_
    rintro e w2 ⟨rfl, hb⟩
    have Bw2 : Below w.heap.size w w2 := Bw1.trans (hb.mono Bw1.size)
    replace h_p := h_p.next hb (Nat.le_refl _) hb.size
    replace k1 := k1.below hb k1.lt
    clear Bw1
    clear hb
    have d_k1_0 := k1.cell 0
    have d_k1_1 := k1.cell 1
    go_wp2_with fail
    clear d_k1_0 d_k1_1
    refine (aWorks _).mono ?_
    rintro e w3 ⟨rfl, hb⟩
    have Bw3 : Below w.heap.size w w3 := Bw2.trans (hb.mono Bw2.size)
    replace h_p := h_p.next hb (Nat.le_refl _) hb.size
    replace k1 := k1.below hb k1.lt
    clear Bw2
    clear hb
    go_wp2
    go_ret
    exact ⟨rfl, Bw3⟩
  have HG : Hid (decide (14 < n) = false) := Lib.hid (decide_eq_false hg)
  obtain ⟨v1, v2, v3, HV⟩ : ∃ v1 v2 v3, Hid (shortestS b ps = (v1, v2, v3)) := ⟨_, _, _, Lib.hid rfl⟩
  obtain ⟨m1, m2, HC⟩ : ∃ m1 m2, Hid (countS b ps = (m1, m2)) := ⟨_, _, Lib.hid rfl⟩
  obtain ⟨LL, HLL⟩ : ∃ LL, Hid (ofN v1 = LL) := ⟨_, Lib.hid rfl⟩
  have HLB : Hid (LL.length ≤ 10) := Lib.hid (by
    have h := shortest_len0 b ps
    rw [HV.out] at h
    rw [← HLL.out, ofN_length]
    exact h)
  have k1 := Bk.new w 24 #[.int .i64 b, .slice A n c]
  have hb : Below w.heap.size w (w.alloc (.cells #[.int .i64 b, .slice A n c] 24)) := (Below.refl _ _).alloc (Nat.le_refl _) _
  have d0 := k1.cell 0
  have d1 := k1.cell 1
  go_enter Try.func4, Try.ntmps4
  go_wp2_with fail
  clear d0 d1
  obtain ⟨u1, hu⟩ : ∃ k, w.heap.size = k := ⟨_, rfl⟩
  obtain ⟨w1, hW⟩ : ∃ W, w.alloc (.cells #[.int .i64 b, .slice A n c] 24) = W := ⟨_, rfl⟩
  rw [hW] at k1 hb ⊢
  rw [hu] at k1 ⊢
  clear hW hu
  have Bw1 : Below w.heap.size w w1 := hb
  replace h_p := h_p.next hb (Nat.le_refl _) hb.size
  clear hb
  refine (aGreat b A n c _ false HG).mono ?_
  rintro e w2 ⟨rfl, hb⟩
  have Bw2 : Below w.heap.size w w2 := Bw1.trans (hb.mono Bw1.size)
  replace h_p := h_p.next hb (Nat.le_refl _) hb.size
  replace k1 := k1.below hb k1.lt
  clear Bw1
  clear hb
  have d_k1_0 := k1.cell 0
  have d_k1_1 := k1.cell 1
  go_wp2_with fail
  clear d_k1_0 d_k1_1
  refine (fShortest b A n c ps _ h_p (by omega) hc (v1, v2, v3) HV).mono ?_
  rintro e w3 ⟨rfl, hb⟩
  have Bw3 : Below w.heap.size w w3 := Bw2.trans (hb.mono Bw2.size)
  replace h_p := h_p.next hb (Nat.le_refl _) hb.size
  replace k1 := k1.below hb k1.lt
  clear Bw2
  clear hb
  have d_k1_0 := k1.cell 0
  have d_k1_1 := k1.cell 1
  go_wp2_with fail
  clear d_k1_0 d_k1_1
  refine (rShortest b A n c ps _ h_p (by omega) (v1, v2, v3) HV).mono ?_
  rintro e w4 ⟨rfl, hb⟩
  have Bw4 : Below w.heap.size w w4 := Bw3.trans (hb.mono Bw3.size)
  replace h_p := h_p.next hb (Nat.le_refl _) hb.size
  replace k1 := k1.below hb k1.lt
  clear Bw3
  clear hb
  have d_k1_0 := k1.cell 0
  have d_k1_1 := k1.cell 1
  go_wp2_with fail
  clear d_k1_0 d_k1_1
  refine (fRound b A n c ps _ h_p (by omega) hc (v1, v2, v3) HV).mono ?_
  rintro e w5 ⟨Aa, na, ca, rfl, ho, hb⟩
  have Bw5 : Below w.heap.size w w5 := Bw4.trans (hb.mono Bw4.size)
  replace h_p := h_p.next hb (Nat.le_refl _) hb.size
  replace k1 := k1.below hb k1.lt
  clear Bw4
  clear hb
  have ra := ho.ri
  clear ho
  dsimp only at ra ⊢
  rw [HLL.out] at ra
  have d_k1_0 := k1.cell 0
  have d_k1_1 := k1.cell 1
  go_wp2_with fail
  clear d_k1_0 d_k1_1
  refine (rRound b A n c ps _ h_p (by omega) (v1, v2, v3) HV).mono ?_
  rintro e w6 ⟨Ab, nb, cb, rfl, ho, hb⟩
  have Bw6 : Below w.heap.size w w6 := Bw5.trans (hb.mono Bw5.size)
  replace h_p := h_p.next hb (Nat.le_refl _) hb.size
  replace k1 := k1.below hb k1.lt
  replace ra := ra.next hb (Nat.le_refl _) hb.size
  clear Bw5
  clear hb
  have rb := ho.ri
  clear ho
  dsimp only at rb ⊢
  rw [HLL.out] at rb
  have d_k1_0 := k1.cell 0
  have d_k1_1 := k1.cell 1
  go_wp2_with fail
  clear d_k1_0 d_k1_1
  refine (fCount b A n c ps _ h_p (by omega) hc (m1, m2) HC).mono ?_
  rintro e w7 ⟨rfl, hb⟩
  have Bw7 : Below w.heap.size w w7 := Bw6.trans (hb.mono Bw6.size)
  replace h_p := h_p.next hb (Nat.le_refl _) hb.size
  replace k1 := k1.below hb k1.lt
  replace ra := ra.next hb (Nat.le_refl _) hb.size
  replace rb := rb.next hb (Nat.le_refl _) hb.size
  clear Bw6
  clear hb
  have d_k1_0 := k1.cell 0
  have d_k1_1 := k1.cell 1
  go_wp2_with fail
  clear d_k1_0 d_k1_1
  refine (rCount b A n c ps _ h_p (by omega) (m1, m2) HC).mono ?_
  rintro e w8 ⟨rfl, hb⟩
  have Bw8 : Below w.heap.size w w8 := Bw7.trans (hb.mono Bw7.size)
  replace h_p := h_p.next hb (Nat.le_refl _) hb.size
  replace k1 := k1.below hb k1.lt
  replace ra := ra.next hb (Nat.le_refl _) hb.size
  replace rb := rb.next hb (Nat.le_refl _) hb.size
  clear Bw7
  clear hb
  have d_k1_0 := k1.cell 0
  have d_k1_1 := k1.cell 1
  go_wp2_with fail
  clear d_k1_0 d_k1_1
  refine (aIntsT _ _ _ _ _ _ _ _ LL LL _ ra rb (by have h := ra.len; have := HLB.out; omega) (by have h := rb.len; have := HLB.out; omega) true (Lib.hid (decide_eq_true rfl))).mono ?_
  rintro e w9 ⟨rfl, hb⟩
  have Bw9 : Below w.heap.size w w9 := Bw8.trans (hb.mono Bw8.size)
  replace h_p := h_p.next hb (Nat.le_refl _) hb.size
  replace k1 := k1.below hb k1.lt
  replace ra := ra.next hb (Nat.le_refl _) hb.size
  replace rb := rb.next hb (Nat.le_refl _) hb.size
  clear Bw8
  clear hb
  have d_k1_0 := k1.cell 0
  have d_k1_1 := k1.cell 1
  go_wp2_with fail
  clear d_k1_0 d_k1_1
  refine (aWorks _).mono ?_
  rintro e w10 ⟨rfl, hb⟩
  have Bw10 : Below w.heap.size w w10 := Bw9.trans (hb.mono Bw9.size)
  replace h_p := h_p.next hb (Nat.le_refl _) hb.size
  replace k1 := k1.below hb k1.lt
  replace ra := ra.next hb (Nat.le_refl _) hb.size
  replace rb := rb.next hb (Nat.le_refl _) hb.size
  clear Bw9
  clear hb
  go_wp2
  go_ret
  exact ⟨rfl, Bw10⟩

set_option maxRecDepth 100000 in
theorem RoundLengths_lifted (os : Go.Os) (started : os.Started) (H : Type) (enc : TypeId × Value → H) :
    ReturnsInHanded {} Try.checked os 4 .any (Rows.roundLengthsSpec.pre6 enc Try.prog Try.f4 Rows.roundLengthsRow.domain false) (Rows.roundLengthsSpec.post enc Try.prog Try.f4 false true false false) := by
  refine returnsInHanded_of_change (C := Try.checked) row_own started (by kernel_rfl) Try.func4
    (ChangeSpec.witness6 (enc := enc) (C := Try.checked) false ⟨#[], #[.agg #[.int .i64 0, .slice none 0 0]], []⟩ 8 (by kernel_rfl) (by kernel_rfl) (by kernel_rfl) (by kernel_rfl)) ?_
  intro W base args ds gs before hval0 hW _ _
  have hval : ∀ (j : Nat) t v, Try.f4.params[j]? = some t → args[j]? = some v → Value.okWide Try.prog W .any base t v := hval0
  have hW' := hW
  obtain ⟨p, q, hA0, hV, rfl, _, _⟩ := hW
  have hA : DataW.TrodAll enc Try.prog W 0 (fun _ => true) true Try.f4.params.toList args.toList ds p := hA0
  rw [Try.params4] at hA hval
  obtain ⟨v0, d0, rfl, rfl, h0⟩ := trodAll_one hA
  obtain ⟨rfl, rfl⟩ := trodVars_none hV
  clear hA0 hval0
  simp only [List.append_nil] at hW'
  have hlt : ∀ x ∈ (p), x.block < W.heap.size := fun x hx => by simpa using hW'.lt x hx
  have a0 := fun W' (hb : Below W.heap.size W W') => row_stays (t := 24) (by kernel_rfl) (of_decide_eq_true (by kernel_rfl)) h0 hlt hb
  obtain ⟨b0, A0, n0, c0, ps0, rfl, hc0, hm0, hx0⟩ := row_pier (hval 0 24 v0 rfl rfl) h0 hlt
  refine (wLengths b0 A0 n0 c0 ps0 W hx0 hc0).mono fun e W' ⟨he, hb⟩ => ?_
  subst he
  exact ⟨_, rfl, _, _, _, [], (p), [], hW', trodAll_mk1 (shut_bool Try.underlying4 true), trodAll_mk1 (a0 _ hb), rfl, hb.frame _, fun h => by cases h⟩
theorem RoundLengths_holds : Rows.RoundLengthsSaid :=
  OpenClaim.holds_of_wide 4 Try.f4 rfl rfl rfl rfl rfl rfl rfl ⟨rfl, rfl, rfl, rfl, rfl⟩ rfl rfl rfl rfl rfl (by kernel_rfl) Try.func4 (by kernel_rfl)
    (of_decide_eq_true (by kernel_rfl)) (by unfold Func.isWrapper; first | (rw [if_pos (by decide +kernel)]; kernel_rfl) | (rw [if_neg (by decide +kernel)]; exact ⟨rfl, rfl⟩))
    (fun os started H enc _ => RoundLengths_lifted os started H enc)
#print axioms RoundLengths_holds
end Go.Proofs.Ytaekjnjignlmoaa
