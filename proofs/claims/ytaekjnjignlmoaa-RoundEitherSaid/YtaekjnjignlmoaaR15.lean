/-
  The reference: 'CheckClash'. Printed by gen_r15.py.
-/
import Derived.Test.YtaekjnjignlmoaaR13
import Derived.Test.YtaekjnjignlmoaaR14
namespace Go.Proofs.Ytaekjnjignlmoaa
open Go.RowKit Go.Shelf

set_option maxRecDepth 100000 in
set_option maxHeartbeats 8000000 in
theorem rCheckClash (b : Int) (A : Option Addr) (n c : Nat) (ps : List (Int × Int)) (S : Option Addr) (m ds : Nat) (L : List Int) (w : World) (h_p : Rp w w.heap.size A n ps) (hn : n ≤ 1048576) (h_s : Ri w w.heap.size S m L) (hm : m ≤ 1048576) (v : Int) (HV : Hid (checkClashS b ps L = v)) :
    Calls Try.prog 44 #[.agg #[.int .i64 b, .slice A n c], .slice S m ds] w (RetI w v) := by
  have HL := Lib.hid h_p.len
  have HLL := Lib.hid h_s.len
  obtain ⟨q, HQ⟩ : ∃ q, Hid (checkPier b ps = q) := ⟨_, Lib.hid rfl⟩
  have hmix : Try.prog.follows .mixedOrders = true := by kernel_rfl
  have k1 := Bk.new w 24 #[.int .i64 b, .slice A n c]
  have hb : Below w.heap.size w (w.alloc (.cells #[.int .i64 b, .slice A n c] 24)) := (Below.refl _ _).alloc (Nat.le_refl _) _
  have q0 := k1.cell 0
  have q1 := k1.cell 1
  go_enter Try.func44, Try.ntmps44
  go_wp2_with fail
  clear q0 q1
  obtain ⟨u1, hu⟩ : ∃ k, w.heap.size = k := ⟨_, rfl⟩
  obtain ⟨w1, hW⟩ : ∃ W, w.alloc (.cells #[.int .i64 b, .slice A n c] 24) = W := ⟨_, rfl⟩
  rw [hW] at k1 hb ⊢
  rw [hu] at k1 ⊢
  clear hW
  have HU := Lib.hid hu
  clear hu
  have Bw1 : Below w.heap.size w w1 := hb
  replace h_p := h_p.next hb (Nat.le_refl _) hb.size
  replace h_s := h_s.next hb (Nat.le_refl _) hb.size
  clear hb
  refine (rCheckPier b A n c ps _ h_p hn q HQ).mono ?_
  rintro e w2 ⟨rfl, hb⟩
  have Bw2 : Below w.heap.size w w2 := Bw1.trans (hb.mono Bw1.size)
  replace h_p := h_p.next hb (Nat.le_refl _) hb.size
  replace h_s := h_s.next hb (Nat.le_refl _) hb.size
  replace k1 := k1.below hb k1.lt
  clear Bw1
  clear hb
  by_cases hq : q = 0
  rotate_left
  · have hqb : (q != 0) = true := by simp [hq]
    have HNQ := Lib.hid hq
    clear hq
    have d_k1_0 := k1.cell 0
    have d_k1_1 := k1.cell 1
    go_wp2_with fail
    clear d_k1_0 d_k1_1
    refine (rCheckPier b A n c ps _ h_p hn q HQ).mono ?_
    rintro e w3 ⟨rfl, hb⟩
    have Bw3 : Below w.heap.size w w3 := Bw2.trans (hb.mono Bw2.size)
    replace h_p := h_p.next hb (Nat.le_refl _) hb.size
    replace h_s := h_s.next hb (Nat.le_refl _) hb.size
    replace k1 := k1.below hb k1.lt
    clear Bw2
    clear hb
    go_wp2
    go_ret
    exact ⟨ret_i (by rw [← HV.out]; unfold checkClashS; rw [HQ.out, if_neg HNQ.out]), Bw3⟩
  subst hq
  have HP : Hid (Pier b ps) := Lib.hid (checkPier_ok.1 HQ.out)
  have hn1 : 1 ≤ n := by rw [← HL.out]; exact HP.out.lo
  have hn10 : n ≤ 10 := by rw [← HL.out]; exact HP.out.hi
  obtain ⟨r, HR⟩ : ∃ r : Bool, Hid ((!(List.range m).any (badC L n)) = r) := ⟨_, Lib.hid rfl⟩
  have d_k1_0 := k1.cell 0
  have d_k1_1 := k1.cell 1
  go_wp2_with fail
  clear d_k1_0 d_k1_1
  refine (rIsList S m ds L n _ h_s hm (by omega) r HR).mono ?_
  rintro e w3 ⟨rfl, hb⟩
  have Bw3 : Below w.heap.size w w3 := Bw2.trans (hb.mono Bw2.size)
  replace h_p := h_p.next hb (Nat.le_refl _) hb.size
  replace h_s := h_s.next hb (Nat.le_refl _) hb.size
  replace k1 := k1.below hb k1.lt
  clear Bw2
  clear hb
  cases r
  · have HB : Hid ((List.range m).any (badC L n) = true) := Lib.hid (by
      have h := HR.out
      simpa using h)
    go_wp2
    go_ret
    exact ⟨ret_i (by rw [← HV.out]; unfold checkClashS; rw [HQ.out, if_pos rfl, HL.out, HLL.out, HB.out]; rfl), Bw3⟩
  · have HB : Hid ((List.range m).any (badC L n) = false) := Lib.hid (by
      have h := HR.out
      simpa using h)
    have HBA := Lib.hid (badC_all (n := n) HLL.out HB.out)
    have HE : Hid (ofN (natsL L) = L) := Lib.hid (natsL_back fun x hx => (HBA.out x hx).1)
    have HA : Hid (∀ i ∈ natsL L, i < n) := Lib.hid (natsL_lt HBA.out)
    replace h_s : Ri w3 w3.heap.size S m (ofN (natsL L)) := by rw [HE.out]; exact h_s
    obtain ⟨cb, HCB⟩ : ∃ r : Bool, Hid (clashB b ps (natsL L) = r) := ⟨_, Lib.hid rfl⟩
    have d_k1_0 := k1.cell 0
    have d_k1_1 := k1.cell 1
    go_wp2_with fail
    clear d_k1_0 d_k1_1
    refine ((show Calls _ _ _ _ (RetB _ cb) from HCB.out ▸ rClashes b A n c ps S m ds (natsL L) _ h_p HP h_s hm HA)).mono ?_
    rintro e w4 ⟨rfl, hb⟩
    have Bw4 : Below w.heap.size w w4 := Bw3.trans (hb.mono Bw3.size)
    replace h_p := h_p.next hb (Nat.le_refl _) hb.size
    replace h_s := h_s.next hb (Nat.le_refl _) hb.size
    replace k1 := k1.below hb k1.lt
    clear Bw3
    clear hb
    cases cb
    · go_wp2
      go_ret
      exact ⟨ret_i (by rw [← HV.out]; unfold checkClashS; rw [HQ.out, if_pos rfl, HL.out, HLL.out, HB.out, HCB.out]; rfl), Bw4⟩
    · go_wp2
      go_ret
      exact ⟨ret_i (by rw [← HV.out]; unfold checkClashS; rw [HQ.out, if_pos rfl, HL.out, HLL.out, HB.out, HCB.out]; rfl), Bw4⟩
end Go.Proofs.Ytaekjnjignlmoaa
