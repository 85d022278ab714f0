/-
  The reference: 'Bounds'. Printed by gen_r25.py.
-/
import Derived.Test.YtaekjnjignlmoaaR21
import Derived.Test.YtaekjnjignlmoaaPth
namespace Go.Proofs.Ytaekjnjignlmoaa
open Go.RowKit Go.Shelf

/-- The numbers of the ends up to one are the earliest steps; those from there on are 0. -/
structure Fill (b : Int) (ps : List (Int × Int)) (m : Nat) (F : Nat → Nat → Nat → Int) (k j f : Nat) : Prop where
  done : ∀ x y e : Nat, y < m → e < 2 → (x < k ∨ (x = k ∧ (y < j ∨ (y = j ∧ e < f)))) → F x y e = early b ps x y e
  rest : ∀ x y e : Nat, (k < x ∨ (x = k ∧ (j < y ∨ (y = j ∧ f ≤ e)))) → F x y e = 0
  bd : ∀ x y e : Nat, -1 ≤ F x y e ∧ F x y e ≤ 9000
theorem Fill.start (b : Int) (ps : List (Int × Int)) (m : Nat) : Fill b ps m (fun _ _ _ => 0) 0 0 0 := ⟨fun x y e _ _ h => by omega, fun _ _ _ _ => rfl, fun _ _ _ => by omega⟩
section
variable {b : Int} {ps : List (Int × Int)} {m k j f : Nat} {F : Nat → Nat → Nat → Int}
theorem Fill.step (h : Fill b ps m F k j f) {v : Int} (hv : v = early b ps k j f) (h1 : -1 ≤ v) (h2 : v ≤ 9000) : Fill b ps m (updN F k j f v) k j (f + 1) := by
  refine ⟨fun x y e hy he hd => ?_, fun x y e hd => ?_, fun x y e => ?_⟩
  · unfold updN
    split
    · rename_i hh
      rw [hh.1, hh.2.1, hh.2.2, hv]
    · rename_i hh
      refine h.done x y e hy he ?_
      rcases hd with hd | ⟨hd, hd2 | ⟨hd2, hd3⟩⟩
      · exact Or.inl hd
      · exact Or.inr ⟨hd, Or.inl hd2⟩
      · refine Or.inr ⟨hd, Or.inr ⟨hd2, ?_⟩⟩
        rcases Nat.lt_or_ge e f with h' | h'
        · exact h'
        · exact absurd ⟨hd, hd2, by omega⟩ hh
  · unfold updN
    rw [if_neg (by omega)]
    exact h.rest x y e (by omega)
  · unfold updN
    split
    · exact ⟨h1, h2⟩
    · exact h.bd x y e
theorem Fill.keep (h : Fill b ps m F k j f) (h0 : early b ps k j f = 0) : Fill b ps m F k j (f + 1) := by
  refine ⟨fun x y e hy he hd => ?_, fun x y e hd => h.rest x y e (by omega), h.bd⟩
  by_cases hh : x = k ∧ y = j ∧ e = f
  · rw [hh.1, hh.2.1, hh.2.2, h0]
    exact h.rest k j f (by omega)
  · exact h.done x y e hy he (by omega)
theorem Fill.next_y (h : Fill b ps m F k j 2) : Fill b ps m F k (j + 1) 0 := ⟨fun x y e hy he hd => h.done x y e hy he (by omega), fun x y e hd => h.rest x y e (by omega), h.bd⟩
theorem Fill.next_x (h : Fill b ps m F k m 0) : Fill b ps m F (k + 1) 0 0 := ⟨fun x y e hy he hd => h.done x y e hy he (by omega), fun x y e hd => h.rest x y e (by omega), h.bd⟩
theorem Fill.sum (h : Fill b ps m F k j f) (hf : f < 2) (hj : j < m) (hi : isE k j f = true) : sumE b ps F k j f = early b ps k j f := by
  rw [early_eq hf]
  refine sumE_congr fun hi g hg => ?_
  unfold isE at hi
  match f, hf, hi with
  | 0, _, hi =>
    have h2 : 0 < k := of_decide_eq_true hi
    exact h.done _ _ g (by omega) hg (by omega)
  | 1, _, hi =>
    have h2 : 0 < j := of_decide_eq_true hi
    exact h.done _ _ g (by omega) hg (by omega)
end
theorem rowC_null {F : Nat → Nat → Nat → Int} {x m : Nat} (h : ∀ y e, F x y e = 0) : rowC F x m = Array.replicate (m * 2) (Value.int .i64 0) := by
  rw [← rowC_zero x m]
  unfold rowC
  simp only [h]
set_option maxRecDepth 100000 in
set_option maxHeartbeats 16000000 in
theorem rBounds (b : Int) (A : Option Addr) (n c : Nat) (ps : List (Int × Int)) (w : World) (h_p : Rp w w.heap.size A n ps) (hn : n ≤ 1048576) (v : Int) (HV : Hid (checkPier b ps = v)) (Rs : List (List (Int × Int))) (HR : Hid (boundsS b ps = Rs)) :
    Calls Try.prog 39 #[.agg #[.int .i64 b, .slice A n c]] w (RetBd w Rs v) := by
  have HL := Lib.hid h_p.len
  obtain ⟨q, HQ⟩ : ∃ q, Hid (checkPier b ps = q) := ⟨_, Lib.hid rfl⟩
  obtain rfl : q = v := HQ.out.symm.trans HV.out
  have hmix : Try.prog.follows .mixedOrders = true := by kernel_rfl
  have k1 := Bk.new w 24 #[.int .i64 b, .slice A n c]
  have hb : Below w.heap.size w (w.alloc (.cells #[.int .i64 b, .slice A n c] 24)) := (Below.refl _ _).alloc (Nat.le_refl _) _
  have q0 := k1.cell 0
  have q1 := k1.cell 1
  go_enter Try.func39, Try.ntmps39
  go_wp2_with fail
  clear q0 q1
  obtain ⟨u1, hu⟩ : ∃ k, w.heap.size = k := ⟨_, rfl⟩
  obtain ⟨w1, hW⟩ : ∃ W, w.alloc (.cells #[.int .i64 b, .slice A n c] 24) = W := ⟨_, rfl⟩
  rw [hW] at k1 hb ⊢
  rw [hu] at k1 ⊢
  clear hW
  have HU := Lib.hid hu
  clear hu
  have Bw1 : Below w.heap.size w w1 := hb
  replace h_p := h_p.next hb (Nat.le_refl _) hb.size
  clear hb
  refine (rCheckPier b A n c ps _ h_p hn q HQ).mono ?_
  rintro e w2 ⟨rfl, hb⟩
  have Bw2 : Below w.heap.size w w2 := Bw1.trans (hb.mono Bw1.size)
  replace h_p := h_p.next hb (Nat.le_refl _) hb.size
  replace k1 := k1.below hb k1.lt
  clear Bw1
  clear hb
  by_cases hq : q = 0
  rotate_left
  · have hqb : (q != 0) = true := by simp [hq]
    have HNQ := Lib.hid hq
    clear hq
    have d_k1_0 := k1.cell 0
    have d_k1_1 := k1.cell 1
    go_wp2_with fail
    clear d_k1_0 d_k1_1
    refine (rCheckPier b A n c ps _ h_p hn q HQ).mono ?_
    rintro e w3 ⟨rfl, hb⟩
    have Bw3 : Below w.heap.size w w3 := Bw2.trans (hb.mono Bw2.size)
    replace h_p := h_p.next hb (Nat.le_refl _) hb.size
    replace k1 := k1.below hb k1.lt
    clear Bw2
    clear hb
    go_wp2
    go_ret2
    exact ⟨none, 0, 0, rfl, by rw [show Rs = [] from by rw [← HR.out]; unfold boundsS; rw [HQ.out, if_neg HNQ.out]]; exact Bd.nil_ _ _, Nat.le_refl _, Bw3⟩
  subst hq
  have HP : Hid (Pier b ps) := Lib.hid (checkPier_ok.1 HQ.out)
  have hn1 : 1 ≤ n := by rw [← HL.out]; exact HP.out.lo
  have hn10 : n ≤ 10 := by rw [← HL.out]; exact HP.out.hi
  have hqn := lefts_le b ps
  rw [HL.out] at hqn
  obtain ⟨q, HQ2⟩ : ∃ q, Hid (lefts b ps = q) := ⟨_, Lib.hid rfl⟩
  rw [HQ2.out] at hqn
  obtain ⟨k1n, HK1⟩ : ∃ k, Hid (q + 1 = k) := ⟨_, Lib.hid rfl⟩
  obtain ⟨r0, HR0⟩ : ∃ r, Hid (n - q = r) := ⟨_, Lib.hid rfl⟩
  obtain ⟨m, HM⟩ : ∃ m, Hid (r0 + 1 = m) := ⟨_, Lib.hid rfl⟩
  have hk1 : k1n ≤ 1000 := by have := HK1.out; omega
  have hm1 : m ≤ 1000 := by have := HM.out; have := HR0.out; omega
  have hw1 : IntKind.i64.wrap ((q : Int) + 1) = (k1n : Int) := by rw [IntWalk.i64_in _ (by omega)]; have := HK1.out; omega
  have hw2 : IntKind.i64.wrap ((n : Int) - (q : Int)) = (r0 : Int) := by rw [IntWalk.i64_in _ (by omega)]; have := HR0.out; omega
  have hw3 : IntKind.i64.wrap ((r0 : Int) + 1) = (m : Int) := by rw [IntWalk.i64_in _ (by have := HR0.out; omega)]; have := HM.out; omega
  have hmk := run_rows k1n hk1
  have hmk2 := run_pairs m hm1
  have d_k1_0 := k1.cell 0
  have d_k1_1 := k1.cell 1
  go_wp2_with fail
  clear d_k1_0 d_k1_1
  refine (rLefts b A n c ps _ h_p HP q HQ2).mono ?_
  rintro e w3 ⟨rfl, hb⟩
  have Bw3 : Below w.heap.size w w3 := Bw2.trans (hb.mono Bw2.size)
  replace h_p := h_p.next hb (Nat.le_refl _) hb.size
  replace k1 := k1.below hb k1.lt
  clear Bw2
  clear hb
  have q0 : OB (w3.alloc (.cells (Array.replicate k1n (Value.slice none 0 0)) 77)) w3.heap.size k1n m [] (fun _ _ _ => 0) := ⟨(Bk.new w3 _ _), Nat.zero_le _, List.nodup_nil, fun i k h => by cases h⟩
  have hbo := (Below.refl w3.heap.size w3).alloc (Nat.le_refl _) (.cells (Array.replicate k1n (Value.slice none 0 0)) 77)
  have d_k1_0 := k1.cell 0
  have d_k1_1 := k1.cell 1
  go_wp2
  clear d_k1_0 d_k1_1
  obtain ⟨O, HO⟩ : ∃ s, Hid (w3.heap.size = s) := ⟨_, Lib.hid rfl⟩
  rw [HO.out] at q0 hbo ⊢
  have hpO : Rp w3 O A n ps := HO.out ▸ h_p
  have hk1O : u1 < O := by rw [← HO.out]; exact k1.lt
  go_loopw [6] (fun i wr => ∃ (k : Nat) (ks : List Nat) (F : Nat → Nat → Nat → Int), k ≤ k1n ∧ i = .int .i64 (k : Int) ∧ Hid (ks.length = k) ∧ OB wr O k1n m ks F ∧ (∀ l ∈ ks, O ≤ l) ∧ Hid (Fill b ps m F k 0 0) ∧ Below O w3 wr) (fun i _ => k1n - (intOf i).toNat)
  case atStart => exact ⟨0, [], _, Nat.zero_le _, rfl, Lib.hid rfl, q0, fun l h => (by cases h), Lib.hid (Fill.start b ps m), hbo⟩
  case round =>
    clear q0 hbo
    obtain ⟨k, ks, F, hk, rfl, HKS, hob, hks, HFI, hb⟩ := hrel
    have hsz : O ≤ wr.heap.size := by have := hb.size; have := HO.out; omega
    have hkb := k1.below hb hk1O
    have c0 : wr.cell? ⟨u1, 0, none⟩ = some (.int .i64 b) := hkb.cell 0
    have c1 : wr.cell? ⟨u1, 1, none⟩ = some (.slice A n c) := hkb.cell 1
    by_cases hlt : k < k1n
    · have hkq : k ≤ q := by have := HK1.out; omega
      have hwk : IntKind.i64.wrap (k : Int) = (k : Int) := IntWalk.i64_in _ (by omega)
      have qa := hob.alloc (.cells (Array.replicate (m * 2) (Value.int .i64 0)) 76)
      have e0 := qa.next HKS.out hlt
      have e1 := qa.out.frozen k
      have hkb2 := hkb.alloc (.cells (Array.replicate (m * 2) (Value.int .i64 0)) 76)
      have c0a := hkb2.cell 0
      have c1a := hkb2.cell 1
      have hkn := Bk.new wr 76 (Array.replicate (m * 2) (Value.int .i64 0))
      rw [← rowC_null (F := F) (x := k) (m := m) (fun y e => HFI.out.rest k y e (Or.inr ⟨rfl, by omega⟩))] at hkn
      have hnk : wr.heap.size ∉ ks := fun h => by have := hob.lt.2 _ h; omega
      have hkn0 := hkn
      rw [rowC_null (F := F) (x := k) (m := m) (fun y e => HFI.out.rest k y e (Or.inr ⟨rfl, by omega⟩))] at hkn0
      have qa2 : OB (wr.alloc (.cells (rowC F k m) 76)) O k1n m ks F := hob.alloc _
      rw [rowC_null (F := F) (x := k) (m := m) (fun y e => HFI.out.rest k y e (Or.inr ⟨rfl, by omega⟩))] at hkn
      have qm := OB.more (k := wr.heap.size) qa (by rw [HKS.out]; exact hlt) (by rw [HKS.out, rowC_null (F := F) (x := k) (m := m) (fun y e => HFI.out.rest k y e (Or.inr ⟨rfl, by omega⟩))]; exact hkn0) hnk
      rw [HKS.out] at qm
      have hbm := (hb.alloc hsz (.cells (Array.replicate (m * 2) (Value.int .i64 0)) 76)).setCell (p := ⟨O, k, none⟩) (Nat.le_refl _) (.slice (some ⟨wr.heap.size, 0, none⟩) m m)
      clear qa2 hkn hkn0
      go_wp2
      clear e0 e1 c0a c1a hkb2 qa
      obtain ⟨kk, hkk⟩ : ∃ s, wr.heap.size = s := ⟨_, rfl⟩
      rw [hkk] at qm hbm hsz ⊢
      obtain ⟨wk, hW⟩ : ∃ X, (wr.alloc (.cells (Array.replicate (m * 2) (Value.int .i64 0)) 76)).setCell ⟨O, k, none⟩ (.slice (some ⟨kk, 0, none⟩) m m) = X := ⟨_, rfl⟩
      rw [hW] at qm hbm ⊢
      obtain ⟨ks2, HK2⟩ : ∃ l, Hid (ks ++ [kk] = l) := ⟨_, Lib.hid rfl⟩
      rw [HK2.out] at qm
      have HKK : Hid (ks2[k]? = some kk) := Lib.hid (by
        rw [← HK2.out, List.getElem?_append_right (by rw [HKS.out]; exact Nat.le_refl _), HKS.out, Nat.sub_self]
        rfl)
      have HKL : Hid (ks2.length = k + 1) := Lib.hid (by rw [← HK2.out, List.length_append, HKS.out]; rfl)
      have hks2 : ∀ l ∈ ks2, O ≤ l := fun l hl => by
        rw [← HK2.out] at hl
        rcases List.mem_append.1 hl with h | h
        · exact hks l h
        · rw [List.mem_singleton.1 h]; exact hsz
      clear hW hkk c0 c1 hkb hob hb hks hnk
      go_loopw [7] (fun i wr => ∃ (j : Nat) (F : Nat → Nat → Nat → Int), j ≤ m ∧ i = .int .i64 (j : Int) ∧ OB wr O k1n m ks2 F ∧ Hid (Fill b ps m F k j 0) ∧ Below O w3 wr) (fun i _ => m - (intOf i).toNat)
      case atStart => exact ⟨0, F, Nat.zero_le _, rfl, qm, HFI, hbm⟩
      case round =>
        clear qm hbm HFI F
        obtain ⟨j, F, hj, rfl, hob, HFI, hb⟩ := hrel
        have hsz2 : O ≤ wr.heap.size := by have := hb.size; have := HO.out; omega
        have hkb := k1.below hb hk1O
        have c0 : wr.cell? ⟨u1, 0, none⟩ = some (.int .i64 b) := hkb.cell 0
        have c1 : wr.cell? ⟨u1, 1, none⟩ = some (.slice A n c) := hkb.cell 1
        have cr := hob.row HKK.out
        by_cases hjlt : j < m
        · have hwj : IntKind.i64.wrap (j : Int) = (j : Int) := IntWalk.i64_in _ (by omega)
          have hjr : j ≤ n - q := by have := HM.out; have := HR0.out; omega
          go_wp2
          clear c0 c1 cr hkb
          go_loopw [8] (fun i wr => ∃ (f : Nat) (F : Nat → Nat → Nat → Int), f ≤ 2 ∧ i = .int .i64 (f : Int) ∧ OB wr O k1n m ks2 F ∧ Hid (Fill b ps m F k j f) ∧ Below O w3 wr) (fun i _ => 2 - (intOf i).toNat)
          case atStart => exact ⟨0, F, Nat.zero_le _, rfl, hob, HFI, hb⟩
          case round =>
            clear hob hb HFI F
            obtain ⟨f, F, hf, rfl, hob, HFI, hb⟩ := hrel
            have hsz3 : O ≤ wr.heap.size := by have := hb.size; have := HO.out; omega
            have hkb := k1.below hb hk1O
            have c0 : wr.cell? ⟨u1, 0, none⟩ = some (.int .i64 b) := hkb.cell 0
            have c1 : wr.cell? ⟨u1, 1, none⟩ = some (.slice A n c) := hkb.cell 1
            by_cases hflt : f < 2
            · rcases (show f = 0 ∨ f = 1 by omega) with h01 | h01
              · subst h01
                obtain ⟨v', HV'⟩ : ∃ v', Hid (placeE b ps k j 0 = v') := ⟨_, Lib.hid rfl⟩
                go_wp2_with fail
                refine (rPlace0 b A n c ps _ (hpO.next hb (Nat.le_refl _) hsz3) HP k j (by rw [HQ2.out]; exact hkq) (by rw [HQ2.out]; exact hjr) v' HV').mono ?_
                rintro e va2 ⟨rfl, hb2⟩
                have hob2 := hob.below hb2
                have hbb := hb.trans (hb2.mono hsz3)
                have hsz4 : O ≤ va2.heap.size := Nat.le_trans hsz3 hb2.size
                clear hb hob hb2 hkb c0 c1
                have hkb := k1.below hbb hk1O
                have c0 : va2.cell? ⟨u1, 0, none⟩ = some (.int .i64 b) := hkb.cell 0
                have c1 : va2.cell? ⟨u1, 1, none⟩ = some (.slice A n c) := hkb.cell 1
                have cr := hob2.row HKK.out
                have cn : va2.cell? ⟨kk, j * 2, none⟩ = some (.int .i64 (F k j 0)) := hob2.num HKK.out hjlt (e := 0) (by omega)
                have cf := hob2.frozen HKK.out (j * 2)
                by_cases h0 : k + j = 0
                · have hk0 : k = 0 := by omega
                  have hj0 : j = 0 := by omega
                  have HV2 : Hid (v' = some b) := Lib.hid (by rw [← HV'.out]; unfold placeE; rw [if_pos h0])
                  have HFN : Hid (Fill b ps m F k j (0 + 1)) := Lib.hid (HFI.out.keep (by rw [hk0, hj0]; rfl))
                  have hkj : ((k : Int) + (j : Int)) = 0 := by omega
                  have hwkj : IntKind.i64.wrap ((k : Int) + (j : Int)) = 0 := by rw [hkj]; rfl
                  rw [HV2.out]
                  dsimp only [Option.getD_some, Option.isSome_some]
                  clear h0 hk0 hj0 hkj
                  go_wp2
                  go_roundw
                  case rel => exact ⟨1, F, by omega, rfl, hob2, HFN, hbb⟩
                  case measure => simp [intOf]
                obtain ⟨z, HZ⟩ : ∃ z : Nat, Hid (k + j = z) := ⟨_, Lib.hid rfl⟩
                have hz0 : 0 < z := by have := HZ.out; omega
                have hwkj : IntKind.i64.wrap ((k : Int) + (j : Int)) = (z : Int) := by rw [IntWalk.i64_in _ (by omega)]; have := HZ.out; omega
                have H0 := Lib.hid h0
                by_cases hi : isE k j 0 = true
                rotate_left
                · have HV2 : Hid (v' = none) := Lib.hid (by rw [← HV'.out]; unfold placeE; rw [if_neg h0, if_neg hi])
                  have HEA : Hid (early b ps k j 0 = -1) := Lib.hid (by rw [early_eq (by omega)]; unfold sumE; rw [if_neg h0, if_neg hi])
                  have HFN : Hid (Fill b ps m (updN F k j 0 (-1)) k j (0 + 1)) := Lib.hid (HFI.out.step (by rw [HEA.out]) (by omega) (by omega))
                  rw [HV2.out]
                  dsimp only [Option.getD_none, Option.isSome_none]
                  have hob3 : OB (va2.setCell ⟨kk, j * 2, none⟩ (.int .i64 (-1))) O k1n m ks2 (updN F k j 0 (-1)) := hob2.set_ HKK.out hjlt (e := 0) (by omega) (-1)
                  have hb3 := hbb.setCell (p := ⟨kk, j * 2, none⟩) (hks2 kk (List.mem_of_getElem? HKK.out)) (.int .i64 (-1))
                  clear h0 hi
                  go_wp2
                  go_roundw
                  case rel => exact ⟨1, _, by omega, rfl, hob3, HFN, hb3⟩
                  case measure => simp [intOf]
                · obtain ⟨pv, HV2⟩ : ∃ p, Hid (v' = some p) := ⟨_, Lib.hid (by rw [← HV'.out]; unfold placeE; rw [if_neg h0, if_pos hi])⟩
                  rw [HV2.out]
                  dsimp only [Option.getD_some, Option.isSome_some]
                  obtain ⟨sm, HSM⟩ : ∃ v, Hid (leastR b ps F k j 0 = v) := ⟨_, Lib.hid rfl⟩
                  have HEA : Hid (sm = early b ps k j 0) := Lib.hid (by
                    rw [← HSM.out, ← leastR_sum h0 hi]
                    exact HFI.out.sum (by omega) hjlt hi)
                  have HFN : Hid (Fill b ps m (updN F k j 0 sm) k j (0 + 1)) := Lib.hid (HFI.out.step HEA.out (by rw [HEA.out]; exact early_ge0 _ _ _ _ _) (by rw [HEA.out]; exact early_le0 HP.out _ _ _))
                  have HI := Lib.hid hi
                  clear h0 hi
                  go_wp2
                  clear c0 c1 cn cf
                  have d0 : va2.drew.cell? ⟨u1, 0, none⟩ = some (.int .i64 b) := hkb.cell 0
                  have d1 : va2.drew.cell? ⟨u1, 1, none⟩ = some (.slice A n c) := hkb.cell 1
                  refine wp_region_noPanic ?_
                  refine wp_region_held_drew (S := fun V => V.cell? ⟨u1, 0, none⟩ = some (.int .i64 b) ∧ V.cell? ⟨u1, 1, none⟩ = some (.slice A n c) ∧ V.cell? ⟨O, k, none⟩ = some (.slice (some ⟨kk, 0, none⟩) m m)) hmix ⟨d0, d1, cr⟩ (fun hS => ?_)
                  clear d0 d1 cr
                  have hob3 := hob2.drew
                  have hb3 := below_drewN hbb 1
                  obtain ⟨va3, hW⟩ : ∃ X, va2.drew = X := ⟨_, rfl⟩
                  have hsz5 : O ≤ va3.heap.size := by rw [← hW]; exact hsz4
                  rw [hW] at hS hob3 ⊢
                  have hb3 : Below O w3 va3 := hW ▸ hb3
                  clear hW hkb hob2 hbb hsz4
                  refine wpAnyH_take (i := 0) (v := ?_) rfl (by kernel_rfl) (by kernel_rfl) (by kernel_rfl) (fun _ _ _ h => h) (Or.inl ⟨by rfl, ?_⟩) hS ?_
                  rotate_left
                  · intro w hSw
                    (try dsimp only at hSw)
                    go_simp
                    (try with_reducible rfl)
                  try simp (maxSteps := 10000000) only [Act.put, List.setIfInBounds_toArray, List.set_cons_zero, List.set_cons_succ, List.getElem_toArray, List.getElem_cons_zero]
                  refine wpAnyH_take (i := 1) (v := ?_) rfl (by kernel_rfl) (by kernel_rfl) (by kernel_rfl) (fun _ _ _ h => h) (Or.inl ⟨by rfl, ?_⟩) hS ?_
                  rotate_left
                  · intro w hSw
                    (try dsimp only at hSw)
                    go_simp
                    (try with_reducible rfl)
                  try simp (maxSteps := 10000000) only [Act.put, List.setIfInBounds_toArray, List.set_cons_zero, List.set_cons_succ, List.getElem_toArray, List.getElem_cons_zero, List.getElem_cons_succ]
                  refine wpAnyH_take (i := 2) (v := ?_) rfl (by kernel_rfl) (by kernel_rfl) (by kernel_rfl) (fun _ _ _ h => h) (Or.inl ⟨by rfl, ?_⟩) hS ?_
                  rotate_left
                  · intro w hSw
                    (try dsimp only at hSw)
                    go_simp
                    (try with_reducible rfl)
                  try simp (maxSteps := 10000000) only [Act.put, List.setIfInBounds_toArray, List.set_cons_zero, List.set_cons_succ, List.getElem_toArray, List.getElem_cons_zero, List.getElem_cons_succ]
                  refine wpAnyH_take (i := 3) (v := ?_) rfl (by kernel_rfl) (by kernel_rfl) (by kernel_rfl) (fun _ _ _ h => h) (Or.inl ⟨by rfl, ?_⟩) hS ?_
                  rotate_left
                  · intro w hSw
                    (try dsimp only at hSw)
                    go_simp
                    (try with_reducible rfl)
                  try simp (maxSteps := 10000000) only [Act.put, List.setIfInBounds_toArray, List.set_cons_zero, List.set_cons_succ, List.getElem_toArray, List.getElem_cons_zero, List.getElem_cons_succ]
                  refine wpAnyH_take (i := 4) (v := ?_) rfl (by kernel_rfl) (by kernel_rfl) (by kernel_rfl) (fun _ _ _ h => h) (Or.inl ⟨by rfl, ?_⟩) hS ?_
                  rotate_left
                  · intro w hSw
                    (try dsimp only at hSw)
                    go_simp
                    (try with_reducible rfl)
                  try simp (maxSteps := 10000000) only [Act.put, List.setIfInBounds_toArray, List.set_cons_zero, List.set_cons_succ, List.getElem_toArray, List.getElem_cons_zero, List.getElem_cons_succ]
                  refine wpAnyH_take (i := 5) (v := ?_) rfl (by kernel_rfl) (by kernel_rfl) (by kernel_rfl) (fun _ _ _ h => h) (Or.inl ⟨by rfl, ?_⟩) hS ?_
                  rotate_left
                  · intro w hSw
                    (try dsimp only at hSw)
                    go_simp
                    (try with_reducible rfl)
                  try simp (maxSteps := 10000000) only [Act.put, List.setIfInBounds_toArray, List.set_cons_zero, List.set_cons_succ, List.getElem_toArray, List.getElem_cons_zero, List.getElem_cons_succ]
                  refine wpAnyH_take (i := 6) (v := ?_) rfl (by kernel_rfl) (by kernel_rfl) (by kernel_rfl) (fun _ _ _ h => h) (Or.inl ⟨by rfl, ?_⟩) hS ?_
                  rotate_left
                  · intro w hSw
                    (try dsimp only at hSw)
                    go_simp
                    (try with_reducible rfl)
                  try simp (maxSteps := 10000000) only [Act.put, List.setIfInBounds_toArray, List.set_cons_zero, List.set_cons_succ, List.getElem_toArray, List.getElem_cons_zero, List.getElem_cons_succ]
                  refine wpAnyH_take (i := 7) (v := ?_) rfl (by kernel_rfl) (by kernel_rfl) (by kernel_rfl) (fun _ _ _ h => h) (Or.inl ⟨by rfl, ?_⟩) hS ?_
                  rotate_left
                  · intro w hSw
                    (try dsimp only at hSw)
                    go_simp
                    (try with_reducible rfl)
                  try simp (maxSteps := 10000000) only [Act.put, List.setIfInBounds_toArray, List.set_cons_zero, List.set_cons_succ, List.getElem_toArray, List.getElem_cons_zero, List.getElem_cons_succ]
                  refine wpAnyH_take (i := 8) (v := ?_) rfl (by kernel_rfl) (by kernel_rfl) (by kernel_rfl) (fun _ _ _ h => h) (Or.inl ⟨by rfl, ?_⟩) hS ?_
                  rotate_left
                  · intro w hSw
                    (try dsimp only at hSw)
                    go_simp
                    (try with_reducible rfl)
                  try simp (maxSteps := 10000000) only [Act.put, List.setIfInBounds_toArray, List.set_cons_zero, List.set_cons_succ, List.getElem_toArray, List.getElem_cons_zero, List.getElem_cons_succ]
                  refine wpAnyH_take (i := 9) (v := ?_) rfl (by kernel_rfl) (by kernel_rfl) (by kernel_rfl) (fun _ _ _ h => h) (Or.inl ⟨by rfl, ?_⟩) hS ?_
                  rotate_left
                  · intro w hSw
                    (try dsimp only at hSw)
                    go_simp
                    (try with_reducible rfl)
                  try simp (maxSteps := 10000000) only [Act.put, List.setIfInBounds_toArray, List.set_cons_zero, List.set_cons_succ, List.getElem_toArray, List.getElem_cons_zero, List.getElem_cons_succ]
                  refine wpAnyH_take (i := 10) (v := ?_) rfl (by kernel_rfl) (by kernel_rfl) (by kernel_rfl) (fun _ _ _ h => h) (Or.inl ⟨by rfl, ?_⟩) hS ?_
                  rotate_left
                  · intro w hSw
                    (try dsimp only at hSw)
                    go_simp
                    (try with_reducible rfl)
                  try simp (maxSteps := 10000000) only [Act.put, List.setIfInBounds_toArray, List.set_cons_zero, List.set_cons_succ, List.getElem_toArray, List.getElem_cons_zero, List.getElem_cons_succ]
                  refine wpAnyH_take (i := 12) (v := ?_) rfl (by kernel_rfl) (by kernel_rfl) (by kernel_rfl) (fun _ _ _ h => h) (Or.inl ⟨by rfl, ?_⟩) hS ?_
                  rotate_left
                  · intro w hSw
                    (try dsimp only at hSw)
                    go_simp
                    (try with_reducible rfl)
                  try simp (maxSteps := 10000000) only [Act.put, List.setIfInBounds_toArray, List.set_cons_zero, List.set_cons_succ, List.getElem_toArray, List.getElem_cons_zero, List.getElem_cons_succ]
                  refine wpAnyH_ready (rs := [11]) (by kernel_rfl) (by simp) ?_
                  refine AllReadyH.cons rfl (fun K hK => ?_) AllReadyH.nil
                  go_simp
                  refine (rLeast0 b A n c ps _ (hpO.next hb3 (Nat.le_refl _) hsz5) HP k j (by rw [HQ2.out]; exact hkq) (by rw [HQ2.out]; exact hjr) (some ⟨O, 0, none⟩) k1n k1n ks2.length m F (Tb.of_ob hob3) hk1 hm1 (Lib.hid HFI.out.bd) (by rw [HKL.out]; omega) (by omega) HI.out sm HSM).mono ?_
                  rintro e va4 ⟨rfl, hb2⟩
                  have hob4 := hob3.below hb2
                  have hb4 := hb3.trans (hb2.mono hsz5)
                  have hkb := k1.below hb4 hk1O
                  refine hK.out _ _ ⟨hkb.cell 0, hkb.cell 1, hob4.row HKK.out⟩ (fun hS => ?_)
                  clear hK K hb2 hob3 hb3
                  try simp (maxSteps := 10000000) only [Act.put, List.setIfInBounds_toArray, List.set_cons_zero, List.set_cons_succ, List.getElem_toArray, List.getElem_cons_zero, List.getElem_cons_succ]
                  refine wpAnyH_take (i := 13) (v := ?_) rfl (by kernel_rfl) (by kernel_rfl) (by kernel_rfl) (fun _ _ _ h => h) (Or.inl ⟨by rfl, ?_⟩) hS ?_
                  rotate_left
                  · intro w hSw
                    (try dsimp only at hSw)
                    go_simp
                    (try with_reducible rfl)
                  try simp (maxSteps := 10000000) only [Act.put, List.setIfInBounds_toArray, List.set_cons_zero, List.set_cons_succ, List.getElem_toArray, List.getElem_cons_zero, List.getElem_cons_succ]
                  refine wpAnyH_ready (rs := [14]) (by kernel_rfl) (by simp) ?_
                  refine AllReadyH.cons rfl (fun K hK => ?_) AllReadyH.nil
                  have cn : va4.cell? ⟨kk, j * 2, none⟩ = some (.int .i64 (F k j 0)) := hob4.num HKK.out hjlt (e := 0) (by omega)
                  have cf := hob4.frozen HKK.out (j * 2)
                  go_simp
                  clear cn cf
                  have hob5 : OB (va4.setCell ⟨kk, j * 2, none⟩ (.int .i64 sm)) O k1n m ks2 (updN F k j 0 sm) := hob4.set_ HKK.out hjlt (e := 0) (by omega) sm
                  have hb5 := hb4.setCell (p := ⟨kk, j * 2, none⟩) (hks2 kk (List.mem_of_getElem? HKK.out)) (.int .i64 sm)
                  have hkb5 := k1.below hb5 hk1O
                  refine hK.out _ _ ⟨hkb5.cell 0, hkb5.cell 1, hob5.row HKK.out⟩ (fun hS => ?_)
                  clear hK K
                  refine wpAnyH_done (by kernel_rfl) (NoPanic.normal ?_) _
                  clear hS
                  go_wp2
                  go_roundw
                  case rel => exact ⟨1, _, by omega, rfl, hob5, HFN, hb5⟩
                  case measure => simp [intOf]
              · subst h01
                obtain ⟨v', HV'⟩ : ∃ v', Hid (placeE b ps k j 1 = v') := ⟨_, Lib.hid rfl⟩
                go_wp2_with fail
                refine (rPlace1 b A n c ps _ (hpO.next hb (Nat.le_refl _) hsz3) HP k j (by rw [HQ2.out]; exact hkq) (by rw [HQ2.out]; exact hjr) v' HV').mono ?_
                rintro e va2 ⟨rfl, hb2⟩
                have hob2 := hob.below hb2
                have hbb := hb.trans (hb2.mono hsz3)
                have hsz4 : O ≤ va2.heap.size := Nat.le_trans hsz3 hb2.size
                clear hb hob hb2 hkb c0 c1
                have hkb := k1.below hbb hk1O
                have c0 : va2.cell? ⟨u1, 0, none⟩ = some (.int .i64 b) := hkb.cell 0
                have c1 : va2.cell? ⟨u1, 1, none⟩ = some (.slice A n c) := hkb.cell 1
                have cr := hob2.row HKK.out
                have cn : va2.cell? ⟨kk, j * 2 + 1, none⟩ = some (.int .i64 (F k j 1)) := hob2.num HKK.out hjlt (e := 1) (by omega)
                have cf := hob2.frozen HKK.out (j * 2 + 1)
                by_cases h0 : k + j = 0
                · have hk0 : k = 0 := by omega
                  have hj0 : j = 0 := by omega
                  have HV2 : Hid (v' = some b) := Lib.hid (by rw [← HV'.out]; unfold placeE; rw [if_pos h0])
                  have HFN : Hid (Fill b ps m F k j (1 + 1)) := Lib.hid (HFI.out.keep (by rw [hk0, hj0]; rfl))
                  have hkj : ((k : Int) + (j : Int)) = 0 := by omega
                  have hwkj : IntKind.i64.wrap ((k : Int) + (j : Int)) = 0 := by rw [hkj]; rfl
                  rw [HV2.out]
                  dsimp only [Option.getD_some, Option.isSome_some]
                  clear h0 hk0 hj0 hkj
                  go_wp2
                  go_roundw
                  case rel => exact ⟨2, F, by omega, rfl, hob2, HFN, hbb⟩
                  case measure => simp [intOf]
                obtain ⟨z, HZ⟩ : ∃ z : Nat, Hid (k + j = z) := ⟨_, Lib.hid rfl⟩
                have hz0 : 0 < z := by have := HZ.out; omega
                have hwkj : IntKind.i64.wrap ((k : Int) + (j : Int)) = (z : Int) := by rw [IntWalk.i64_in _ (by omega)]; have := HZ.out; omega
                have H0 := Lib.hid h0
                by_cases hi : isE k j 1 = true
                rotate_left
                · have HV2 : Hid (v' = none) := Lib.hid (by rw [← HV'.out]; unfold placeE; rw [if_neg h0, if_neg hi])
                  have HEA : Hid (early b ps k j 1 = -1) := Lib.hid (by rw [early_eq (by omega)]; unfold sumE; rw [if_neg h0, if_neg hi])
                  have HFN : Hid (Fill b ps m (updN F k j 1 (-1)) k j (1 + 1)) := Lib.hid (HFI.out.step (by rw [HEA.out]) (by omega) (by omega))
                  rw [HV2.out]
                  dsimp only [Option.getD_none, Option.isSome_none]
                  have hob3 : OB (va2.setCell ⟨kk, j * 2 + 1, none⟩ (.int .i64 (-1))) O k1n m ks2 (updN F k j 1 (-1)) := hob2.set_ HKK.out hjlt (e := 1) (by omega) (-1)
                  have hb3 := hbb.setCell (p := ⟨kk, j * 2 + 1, none⟩) (hks2 kk (List.mem_of_getElem? HKK.out)) (.int .i64 (-1))
                  clear h0 hi
                  go_wp2
                  go_roundw
                  case rel => exact ⟨2, _, by omega, rfl, hob3, HFN, hb3⟩
                  case measure => simp [intOf]
                · obtain ⟨pv, HV2⟩ : ∃ p, Hid (v' = some p) := ⟨_, Lib.hid (by rw [← HV'.out]; unfold placeE; rw [if_neg h0, if_pos hi])⟩
                  rw [HV2.out]
                  dsimp only [Option.getD_some, Option.isSome_some]
                  obtain ⟨sm, HSM⟩ : ∃ v, Hid (leastR b ps F k j 1 = v) := ⟨_, Lib.hid rfl⟩
                  have HEA : Hid (sm = early b ps k j 1) := Lib.hid (by
                    rw [← HSM.out, ← leastR_sum h0 hi]
                    exact HFI.out.sum (by omega) hjlt hi)
                  have HFN : Hid (Fill b ps m (updN F k j 1 sm) k j (1 + 1)) := Lib.hid (HFI.out.step HEA.out (by rw [HEA.out]; exact early_ge0 _ _ _ _ _) (by rw [HEA.out]; exact early_le0 HP.out _ _ _))
                  have HI := Lib.hid hi
                  clear h0 hi
                  go_wp2
                  clear c0 c1 cn cf
                  have d0 : va2.drew.cell? ⟨u1, 0, none⟩ = some (.int .i64 b) := hkb.cell 0
                  have d1 : va2.drew.cell? ⟨u1, 1, none⟩ = some (.slice A n c) := hkb.cell 1
                  refine wp_region_noPanic ?_
                  refine wp_region_held_drew (S := fun V => V.cell? ⟨u1, 0, none⟩ = some (.int .i64 b) ∧ V.cell? ⟨u1, 1, none⟩ = some (.slice A n c) ∧ V.cell? ⟨O, k, none⟩ = some (.slice (some ⟨kk, 0, none⟩) m m)) hmix ⟨d0, d1, cr⟩ (fun hS => ?_)
                  clear d0 d1 cr
                  have hob3 := hob2.drew
                  have hb3 := below_drewN hbb 1
                  obtain ⟨va3, hW⟩ : ∃ X, va2.drew = X := ⟨_, rfl⟩
                  have hsz5 : O ≤ va3.heap.size := by rw [← hW]; exact hsz4
                  rw [hW] at hS hob3 ⊢
                  have hb3 : Below O w3 va3 := hW ▸ hb3
                  clear hW hkb hob2 hbb hsz4
                  refine wpAnyH_take (i := 0) (v := ?_) rfl (by kernel_rfl) (by kernel_rfl) (by kernel_rfl) (fun _ _ _ h => h) (Or.inl ⟨by rfl, ?_⟩) hS ?_
                  rotate_left
                  · intro w hSw
                    (try dsimp only at hSw)
                    go_simp
                    (try with_reducible rfl)
                  try simp (maxSteps := 10000000) only [Act.put, List.setIfInBounds_toArray, List.set_cons_zero, List.set_cons_succ, List.getElem_toArray, List.getElem_cons_zero]
                  refine wpAnyH_take (i := 1) (v := ?_) rfl (by kernel_rfl) (by kernel_rfl) (by kernel_rfl) (fun _ _ _ h => h) (Or.inl ⟨by rfl, ?_⟩) hS ?_
                  rotate_left
                  · intro w hSw
                    (try dsimp only at hSw)
                    go_simp
                    (try with_reducible rfl)
                  try simp (maxSteps := 10000000) only [Act.put, List.setIfInBounds_toArray, List.set_cons_zero, List.set_cons_succ, List.getElem_toArray, List.getElem_cons_zero, List.getElem_cons_succ]
                  refine wpAnyH_take (i := 2) (v := ?_) rfl (by kernel_rfl) (by kernel_rfl) (by kernel_rfl) (fun _ _ _ h => h) (Or.inl ⟨by rfl, ?_⟩) hS ?_
                  rotate_left
                  · intro w hSw
                    (try dsimp only at hSw)
                    go_simp
                    (try with_reducible rfl)
                  try simp (maxSteps := 10000000) only [Act.put, List.setIfInBounds_toArray, List.set_cons_zero, List.set_cons_succ, List.getElem_toArray, List.getElem_cons_zero, List.getElem_cons_succ]
                  refine wpAnyH_take (i := 3) (v := ?_) rfl (by kernel_rfl) (by kernel_rfl) (by kernel_rfl) (fun _ _ _ h => h) (Or.inl ⟨by rfl, ?_⟩) hS ?_
                  rotate_left
                  · intro w hSw
                    (try dsimp only at hSw)
                    go_simp
                    (try with_reducible rfl)
                  try simp (maxSteps := 10000000) only [Act.put, List.setIfInBounds_toArray, List.set_cons_zero, List.set_cons_succ, List.getElem_toArray, List.getElem_cons_zero, List.getElem_cons_succ]
                  refine wpAnyH_take (i := 4) (v := ?_) rfl (by kernel_rfl) (by kernel_rfl) (by kernel_rfl) (fun _ _ _ h => h) (Or.inl ⟨by rfl, ?_⟩) hS ?_
                  rotate_left
                  · intro w hSw
                    (try dsimp only at hSw)
                    go_simp
                    (try with_reducible rfl)
                  try simp (maxSteps := 10000000) only [Act.put, List.setIfInBounds_toArray, List.set_cons_zero, List.set_cons_succ, List.getElem_toArray, List.getElem_cons_zero, List.getElem_cons_succ]
                  refine wpAnyH_take (i := 5) (v := ?_) rfl (by kernel_rfl) (by kernel_rfl) (by kernel_rfl) (fun _ _ _ h => h) (Or.inl ⟨by rfl, ?_⟩) hS ?_
                  rotate_left
                  · intro w hSw
                    (try dsimp only at hSw)
                    go_simp
                    (try with_reducible rfl)
                  try simp (maxSteps := 10000000) only [Act.put, List.setIfInBounds_toArray, List.set_cons_zero, List.set_cons_succ, List.getElem_toArray, List.getElem_cons_zero, List.getElem_cons_succ]
                  refine wpAnyH_take (i := 6) (v := ?_) rfl (by kernel_rfl) (by kernel_rfl) (by kernel_rfl) (fun _ _ _ h => h) (Or.inl ⟨by rfl, ?_⟩) hS ?_
                  rotate_left
                  · intro w hSw
                    (try dsimp only at hSw)
                    go_simp
                    (try with_reducible rfl)
                  try simp (maxSteps := 10000000) only [Act.put, List.setIfInBounds_toArray, List.set_cons_zero, List.set_cons_succ, List.getElem_toArray, List.getElem_cons_zero, List.getElem_cons_succ]
                  refine wpAnyH_take (i := 7) (v := ?_) rfl (by kernel_rfl) (by kernel_rfl) (by kernel_rfl) (fun _ _ _ h => h) (Or.inl ⟨by rfl, ?_⟩) hS ?_
                  rotate_left
                  · intro w hSw
                    (try dsimp only at hSw)
                    go_simp
                    (try with_reducible rfl)
                  try simp (maxSteps := 10000000) only [Act.put, List.setIfInBounds_toArray, List.set_cons_zero, List.set_cons_succ, List.getElem_toArray, List.getElem_cons_zero, List.getElem_cons_succ]
                  refine wpAnyH_take (i := 8) (v := ?_) rfl (by kernel_rfl) (by kernel_rfl) (by kernel_rfl) (fun _ _ _ h => h) (Or.inl ⟨by rfl, ?_⟩) hS ?_
                  rotate_left
                  · intro w hSw
                    (try dsimp only at hSw)
                    go_simp
                    (try with_reducible rfl)
                  try simp (maxSteps := 10000000) only [Act.put, List.setIfInBounds_toArray, List.set_cons_zero, List.set_cons_succ, List.getElem_toArray, List.getElem_cons_zero, List.getElem_cons_succ]
                  refine wpAnyH_take (i := 9) (v := ?_) rfl (by kernel_rfl) (by kernel_rfl) (by kernel_rfl) (fun _ _ _ h => h) (Or.inl ⟨by rfl, ?_⟩) hS ?_
                  rotate_left
                  · intro w hSw
                    (try dsimp only at hSw)
                    go_simp
                    (try with_reducible rfl)
                  try simp (maxSteps := 10000000) only [Act.put, List.setIfInBounds_toArray, List.set_cons_zero, List.set_cons_succ, List.getElem_toArray, List.getElem_cons_zero, List.getElem_cons_succ]
                  refine wpAnyH_take (i := 10) (v := ?_) rfl (by kernel_rfl) (by kernel_rfl) (by kernel_rfl) (fun _ _ _ h => h) (Or.inl ⟨by rfl, ?_⟩) hS ?_
                  rotate_left
                  · intro w hSw
                    (try dsimp only at hSw)
                    go_simp
                    (try with_reducible rfl)
                  try simp (maxSteps := 10000000) only [Act.put, List.setIfInBounds_toArray, List.set_cons_zero, List.set_cons_succ, List.getElem_toArray, List.getElem_cons_zero, List.getElem_cons_succ]
                  refine wpAnyH_take (i := 12) (v := ?_) rfl (by kernel_rfl) (by kernel_rfl) (by kernel_rfl) (fun _ _ _ h => h) (Or.inl ⟨by rfl, ?_⟩) hS ?_
                  rotate_left
                  · intro w hSw
                    (try dsimp only at hSw)
                    go_simp
                    (try with_reducible rfl)
                  try simp (maxSteps := 10000000) only [Act.put, List.setIfInBounds_toArray, List.set_cons_zero, List.set_cons_succ, List.getElem_toArray, List.getElem_cons_zero, List.getElem_cons_succ]
                  refine wpAnyH_ready (rs := [11]) (by kernel_rfl) (by simp) ?_
                  refine AllReadyH.cons rfl (fun K hK => ?_) AllReadyH.nil
                  go_simp
                  refine (rLeast1 b A n c ps _ (hpO.next hb3 (Nat.le_refl _) hsz5) HP k j (by rw [HQ2.out]; exact hkq) (by rw [HQ2.out]; exact hjr) (some ⟨O, 0, none⟩) k1n k1n ks2.length m F (Tb.of_ob hob3) hk1 hm1 (Lib.hid HFI.out.bd) (by rw [HKL.out]; omega) (by omega) HI.out sm HSM).mono ?_
                  rintro e va4 ⟨rfl, hb2⟩
                  have hob4 := hob3.below hb2
                  have hb4 := hb3.trans (hb2.mono hsz5)
                  have hkb := k1.below hb4 hk1O
                  refine hK.out _ _ ⟨hkb.cell 0, hkb.cell 1, hob4.row HKK.out⟩ (fun hS => ?_)
                  clear hK K hb2 hob3 hb3
                  try simp (maxSteps := 10000000) only [Act.put, List.setIfInBounds_toArray, List.set_cons_zero, List.set_cons_succ, List.getElem_toArray, List.getElem_cons_zero, List.getElem_cons_succ]
                  refine wpAnyH_take (i := 13) (v := ?_) rfl (by kernel_rfl) (by kernel_rfl) (by kernel_rfl) (fun _ _ _ h => h) (Or.inl ⟨by rfl, ?_⟩) hS ?_
                  rotate_left
                  · intro w hSw
                    (try dsimp only at hSw)
                    go_simp
                    (try with_reducible rfl)
                  try simp (maxSteps := 10000000) only [Act.put, List.setIfInBounds_toArray, List.set_cons_zero, List.set_cons_succ, List.getElem_toArray, List.getElem_cons_zero, List.getElem_cons_succ]
                  refine wpAnyH_ready (rs := [14]) (by kernel_rfl) (by simp) ?_
                  refine AllReadyH.cons rfl (fun K hK => ?_) AllReadyH.nil
                  have cn : va4.cell? ⟨kk, j * 2 + 1, none⟩ = some (.int .i64 (F k j 1)) := hob4.num HKK.out hjlt (e := 1) (by omega)
                  have cf := hob4.frozen HKK.out (j * 2 + 1)
                  go_simp
                  clear cn cf
                  have hob5 : OB (va4.setCell ⟨kk, j * 2 + 1, none⟩ (.int .i64 sm)) O k1n m ks2 (updN F k j 1 sm) := hob4.set_ HKK.out hjlt (e := 1) (by omega) sm
                  have hb5 := hb4.setCell (p := ⟨kk, j * 2 + 1, none⟩) (hks2 kk (List.mem_of_getElem? HKK.out)) (.int .i64 sm)
                  have hkb5 := k1.below hb5 hk1O
                  refine hK.out _ _ ⟨hkb5.cell 0, hkb5.cell 1, hob5.row HKK.out⟩ (fun hS => ?_)
                  clear hK K
                  refine wpAnyH_done (by kernel_rfl) (NoPanic.normal ?_) _
                  clear hS
                  go_wp2
                  go_roundw
                  case rel => exact ⟨2, _, by omega, rfl, hob5, HFN, hb5⟩
                  case measure => simp [intOf]
            · have hf2 : f = 2 := by omega
              subst hf2
              have HFN : Hid (Fill b ps m F k (j + 1) 0) := Lib.hid HFI.out.next_y
              go_wp2
              go_roundw
              case rel => exact ⟨j + 1, F, by omega, by go_num, hob, HFN, hb⟩
              case measure => simp [intOf]; omega
        · have hjm : j = m := by omega
          have HFN : Hid (Fill b ps m F (k + 1) 0 0) := Lib.hid (Fill.next_x (hjm ▸ HFI.out))
          clear hjm
          go_wp2
          go_roundw
          case rel => exact ⟨k + 1, ks2, F, by omega, by go_num, HKL, hob, hks2, HFN, hb⟩
          case measure => simp [intOf]; omega
    · have hkk1 : k = k1n := by omega
      have HRS : Hid (Rs = rowsOf F k1n m) := Lib.hid (by
        rw [← HR.out]
        unfold boundsS
        rw [if_pos (checkPier_ok.2 HP.out), HL.out, HQ2.out, HK1.out, HR0.out, HM.out]
        exact rowsOf_congr fun x y e hx hy he => (HFI.out.done x y e hy he (Or.inl (by omega))).symm)
      have hbd := hob.bd (HKS.out.trans hkk1)
      have hkq2 : ¬ k ≤ q := by have := HK1.out; omega
      have HKE := Lib.hid hkk1
      clear hkk1
      go_wp2
      go_ret2
      exact ⟨some ⟨O, 0, none⟩, k1n, k1n, rfl, by rw [HRS.out]; exact hbd, Nat.le_refl _, Bw3.trans (hb.mono (by rw [← HO.out]; exact Bw3.size))⟩
end Go.Proofs.Ytaekjnjignlmoaa
