/-
  The reference: Fewest, isBest, Heights, Greedy.
-/
import Derived.Test.YtloibnmhgocboaaR2
import Derived.Test.YtloibnmhgocboaaOwn
import Derived.Test.YtloibnmhgocboaaPL
namespace Go.Proofs.Ytloibnmhgocboaa
open Go.RowKit

theorem below_d {w w' : World} {m : Nat} (h : Below (w.drewN m).heap.size (w.drewN m) w') : Below w.heap.size w w' := (below_drewN (Below.refl _ w) m).trans h
theorem below_d0 (w : World) (m : Nat) : Below w.heap.size w (w.drewN m) := below_drewN (Below.refl _ w) m
section
variable (A : Option Addr) (n c : Nat) (cs : List Int) (a : Int) (w : World) (hx : Ri w w.heap.size A n cs) (hn : n ≤ 1048576)
include hx hn
set_option maxHeartbeats 1000000 in
theorem rFewestT (v r : Int) (HR : Hid (fewestS cs a = (v, r))) : Calls Try.prog 25 #[.slice A n c, .int .i64 a] w (RetII w v r) := by
  obtain ⟨q, HQ⟩ : ∃ q, Hid (amountE cs a = q) := ⟨_, Lib.hid rfl⟩
  have HL := Lib.hid hx.len
  by_cases h0 : q = 0
  · subst h0
    obtain ⟨hg, ha0, ha1⟩ := amountE_ok.1 HQ.out
    have hn5 : n ≤ 5 := by rw [← HL.out]; exact hg.hi
    have HC : Hid (∀ c ∈ cs, 1 ≤ c ∧ c ≤ 50) := Lib.hid hg.all
    obtain ⟨N, rfl⟩ : ∃ N : Nat, a = N := ⟨a.toNat, by omega⟩
    have hN : N ≤ 300 := by omega
    have HE : Hid ((if few cs N < 0 then ((0 : Int), (5 : Int)) else (few cs N, 0)) = (v, r)) := Lib.hid (by
      have e := HR.out
      unfold fewestS at e
      rwa [if_pos HQ.out] at e)
    clear hg
    go_enter Try.func25, Try.ntmps25
    go_wp2_with fail
    refine (rAmount _ _ _ _ _ _ _ hx (by omega) _ HQ).mono ?_
    rintro e w1 ⟨rfl, m, rfl⟩
    go_wp2_with fail
    refine (rFewestOf _ _ _ _ N _ (hx.drewN m) hn5 hN HC).mono ?_
    rintro e w2 ⟨A', n', c', rfl, ho, hb⟩
    have hl := ho.len
    rw [fewL_len] at hl
    obtain ⟨ad, y, rfl, _, cy, hyk, _⟩ := ho.ri.at_ (k := N) (by omega)
    have HY : Hid (few cs N = y) := Lib.hid (nth_some hyk.out)
    have hb2 := below_d hb
    clear hb ho
    by_cases hy : y < 0
    · have HV : Hid (0 = v ∧ 5 = r) := Lib.hid (by have e := HE.out; rw [HY.out, if_pos hy] at e; cases e; exact ⟨rfl, rfl⟩)
      go_wp2
      go_ret2
      exact ⟨ret_ii HV.out.1 HV.out.2, hb2⟩
    · have HV : Hid (y = v ∧ 0 = r) := Lib.hid (by have e := HE.out; rw [HY.out, if_neg hy] at e; cases e; exact ⟨rfl, rfl⟩)
      go_wp2
      go_ret2
      exact ⟨ret_ii HV.out.1 HV.out.2, hb2⟩
  · have HE : Hid (0 = v ∧ q = r) := Lib.hid (by
      have e := HR.out
      unfold fewestS at e
      rw [if_neg (by rw [HQ.out]; exact h0), HQ.out] at e
      cases e
      exact ⟨rfl, rfl⟩)
    have hq := ne0 h0
    go_enter Try.func25, Try.ntmps25
    go_wp2_with fail
    refine (rAmount _ _ _ _ _ _ _ hx (by omega) _ HQ).mono ?_
    rintro e w1 ⟨rfl, m1, rfl⟩
    go_wp2_with fail
    refine (rAmount _ _ _ _ _ _ _ (hx.drewN m1) (by omega) _ HQ).mono ?_
    rintro e w1 ⟨rfl, m2, rfl⟩
    go_wp2
    go_ret2
    exact ⟨ret_ii HE.out.1 HE.out.2, below_d0 _ _⟩
end

set_option maxHeartbeats 1000000 in
theorem rIsBest (A : Option Addr) (n c : Nat) (cs : List Int) (N : Nat) (m : Int) (w : World) (hx : Ri w w.heap.size A n cs) (hn : n ≤ 5) (hN : N ≤ 300) (HC : Hid (∀ c ∈ cs, 1 ≤ c ∧ c ≤ 50)) (b : Bool) (HB : Hid (decide (few cs N = m) = b)) :
    Calls Try.prog 66 #[.slice A n c, .int .i64 (N : Int), .int .i64 m] w (RetB w b) := by
  go_enter Try.func66, Try.ntmps66
  go_wp2_with fail
  refine (rFewestOf _ _ _ _ N _ hx hn hN HC).mono ?_
  rintro e w2 ⟨A', n', c', rfl, ho, hb⟩
  have hl := ho.len
  rw [fewL_len] at hl
  obtain ⟨ad, y, rfl, _, cy, hyk, _⟩ := ho.ri.at_ (k := N) (by omega)
  have HY : Hid ((y == m) = b) := Lib.hid (by have h : few cs N = y := nth_some hyk.out; rw [← h]; exact HB.out)
  clear ho
  go_wp2
  go_ret
  exact ⟨ret_b HY.out, hb⟩

/-- The heights, with the first k put right. -/
def mixH (L : List Int) (k : Nat) : List Int := (L.take k).map highOf ++ L.drop k
theorem mixH_len (L : List Int) (k : Nat) : (mixH L k).length = L.length := by simp [mixH]; omega
theorem mixH_at {L : List Int} {k : Nat} {y : Int} (h : L[k]? = some y) : (mixH L k)[k]? = some y ∧ mixH L (k + 1) = (mixH L k).set k (highOf y) := by
  have hl := (List.getElem?_eq_some_iff.1 h).1
  have e : L.drop k = y :: L.drop (k + 1) := by
    rw [List.drop_eq_getElem_cons hl]
    obtain ⟨_, h2⟩ := List.getElem?_eq_some_iff.1 h
    rw [h2]
  have hlen : ((L.take k).map highOf).length = k := by simp; omega
  unfold mixH
  constructor
  · rw [List.getElem?_append_right (by omega), hlen, e]
    simp
  · rw [take_snoc h, List.map_append, e, List.append_assoc, List.set_append_right _ _ (by omega), hlen, Nat.sub_self]
    rfl
set_option maxHeartbeats 1000000 in
theorem rHeightsT (A : Option Addr) (n c : Nat) (cs : List Int) (a : Int) (w : World) (hx : Ri w w.heap.size A n cs) (hn : n ≤ 1048576) (L : List Int) (r : Int) (HR : Hid (heightsS cs a = (L, r))) : Calls Try.prog 32 #[.slice A n c, .int .i64 a] w (RetLE w L r) := by
  obtain ⟨q, HQ⟩ : ∃ q, Hid (amountE cs a = q) := ⟨_, Lib.hid rfl⟩
  have HL := Lib.hid hx.len
  by_cases h0 : q = 0
  · subst h0
    obtain ⟨hg, ha0, ha1⟩ := amountE_ok.1 HQ.out
    have hn5 : n ≤ 5 := by rw [← HL.out]; exact hg.hi
    have HC : Hid (∀ c ∈ cs, 1 ≤ c ∧ c ≤ 50) := Lib.hid hg.all
    obtain ⟨N, rfl⟩ : ∃ N : Nat, a = N := ⟨a.toNat, by omega⟩
    have hN : N ≤ 300 := by omega
    have HE : Hid (heightsL cs N = L ∧ 0 = r) := Lib.hid (by
      have e := HR.out
      unfold heightsS at e
      rw [if_pos HQ.out] at e
      cases e
      exact ⟨rfl, rfl⟩)
    clear hg
    go_enter Try.func32, Try.ntmps32
    go_wp2_with fail
    refine (rAmount _ _ _ _ _ _ _ hx (by omega) _ HQ).mono ?_
    rintro e w1 ⟨rfl, m, rfl⟩
    go_wp2_with fail
    refine (rFewestOf _ _ _ _ N _ (hx.drewN m) hn5 hN HC).mono ?_
    rintro e w2 ⟨A', n', c', rfl, ho, hb⟩
    have hl := ho.len
    rw [fewL_len] at hl
    obtain rfl : n' = N + 1 := hl.symm
    obtain ⟨g, rfl, hg1, hg2⟩ := ho.row (by omega)
    have hb2 := below_d hb
    clear hb
    obtain ⟨F, HF⟩ : ∃ F, Hid (fewL cs N = F) := ⟨_, Lib.hid rfl⟩
    rw [HF.out] at ho
    have HLF : Hid (F.length = N + 1) := Lib.hid (by rw [← HF.out, fewL_len])
    have hg1' : w.heap.size ≤ g := hg1
    go_wp2
    go_loopw [7] (fun i wr => ∃ k : Nat, k ≤ N + 1 ∧ i = .int .i64 k ∧ Oi wr w.heap.size (some ⟨g, 0, none⟩) (N + 1) c' (mixH F k) ∧ Below w.heap.size w wr) (fun i _ => N + 1 - (intOf i).toNat)
    case atStart => exact ⟨0, Nat.zero_le _, rfl, by simpa [mixH] using ho, hb2⟩
    case round =>
      obtain ⟨k, hk, rfl, hr, hbr⟩ := hrel
      by_cases hlt : k < N + 1
      · have hfk : F[k]? = some (nth F k) := some_nth (by rw [HLF.out]; exact hlt)
        obtain ⟨y, hy⟩ : ∃ y, nth F k = y := ⟨_, rfl⟩
        rw [hy] at hfk
        have HM := Lib.hid (mixH_at hfk)
        have c1 := hr.cell hlt
        rw [nth_some HM.out.1] at c1
        have f1 := hr.frozen k
        clear hy hfk
        by_cases hyn : y < 0
        · have HX : Hid (mixH F (k + 1) = (mixH F k).set k 1000) := Lib.hid (by rw [HM.out.2, highOf, if_pos hyn])
          go_wp2
          go_roundw
          case rel => exact ⟨k + 1, by omega, by go_num, by rw [HX.out]; exact hr.put_ k 1000, hbr.setCell hg1' _⟩
          case measure => simp [intOf]; omega
        · have HX : Hid (mixH F (k + 1) = mixH F k) := Lib.hid (by
            rw [HM.out.2, highOf, if_neg hyn]
            exact List.ext_getElem? fun j => by
              rw [List.getElem?_set]
              split
              · rename_i e
                subst e
                have := HM.out.1
                rw [if_pos (List.getElem?_eq_some_iff.1 this).1, this]
              · rfl)
          go_wp2
          go_roundw
          case rel => exact ⟨k + 1, by omega, by go_num, by rw [HX.out]; exact hr, hbr⟩
          case measure => simp [intOf]; omega
      · obtain rfl : k = N + 1 := by omega
        have HX : Hid (mixH F (N + 1) = L) := Lib.hid (by
          rw [← HE.out.1, ← HF.out, mixH, List.take_of_length_le (by rw [fewL_len]; exact Nat.le_refl _), List.drop_eq_nil_of_le (by rw [fewL_len]; exact Nat.le_refl _), List.append_nil]
          rfl)
        have HZ : Hid (0 = r) := Lib.hid HE.out.2
        rw [HX.out] at hr
        go_wp2
        go_ret2
        exact ⟨_, _, _, ret_le HZ.out, hr, hbr⟩
  · have HE : Hid ([] = L ∧ q = r) := Lib.hid (by
      have e := HR.out
      unfold heightsS at e
      rw [if_neg (by rw [HQ.out]; exact h0), HQ.out] at e
      cases e
      exact ⟨rfl, rfl⟩)
    have hq := ne0 h0
    go_enter Try.func32, Try.ntmps32
    go_wp2_with fail
    refine (rAmount _ _ _ _ _ _ _ hx (by omega) _ HQ).mono ?_
    rintro e w1 ⟨rfl, m1, rfl⟩
    go_wp2_with fail
    refine (rAmount _ _ _ _ _ _ _ (hx.drewN m1) (by omega) _ HQ).mono ?_
    rintro e w1 ⟨rfl, m2, rfl⟩
    go_wp2
    go_ret2
    exact ⟨none, 0, 0, ret_le HE.out.2, by rw [← HE.out.1]; exact Oi.nil_ _ _, below_d0 _ _⟩
end Go.Proofs.Ytloibnmhgocboaa
