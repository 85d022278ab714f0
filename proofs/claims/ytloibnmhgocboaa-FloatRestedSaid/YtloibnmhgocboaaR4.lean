/-
  The reference: Greedy, CheckHeights.
-/
import Derived.Test.YtloibnmhgocboaaR3
import Derived.Test.YtloibnmhgocboaaPQ
namespace Go.Proofs.Ytloibnmhgocboaa
open Go.RowKit

set_option maxHeartbeats 2000000 in
theorem rGreedyOf (A : Option Addr) (n c : Nat) (cs : List Int) (a : Int) (w : World) (hx : Ri w w.heap.size A n cs) (hn : n ≤ 5) (ha0 : 0 ≤ a) (ha1 : a ≤ 300) (HC : Hid (∀ c ∈ cs, 1 ≤ c ∧ c ≤ 50)) :
    Calls Try.prog 68 #[.slice A n c, .int .i64 a] w fun e w' => ∃ (A' : Option Addr) (c' : Nat), e = .returned (.tuple #[.slice A' n c', .int .i64 (greedyL cs a).2]) ∧ Oi w' w.heap.size A' n c' (greedyL cs a).1 ∧ Below w.heap.size w w' := by
  have HL := Lib.hid hx.len
  have HC1 : Hid (∀ c ∈ cs, 1 ≤ c) := Lib.hid (fun c h => (HC.out c h).1)
  go_enter Try.func68, Try.ntmps68
  go_wp2_with (at_make; go_must (refine make_ints rfl (.tmp 10) (.tmp 10) rfl n _ rfl rfl rfl (by omega) ?_); go_must (intro w1 hr1 hb1))
  have hsz1 := hb1.size
  have hg1 : w.heap.size < w1.heap.size ∨ n = 0 := by
    rcases Nat.eq_zero_or_pos n with h | h
    · exact .inr h
    · obtain ⟨g, hA, _, h2⟩ := hr1.row h
      cases hA
      exact .inl h2
  go_loopw [7, 8] (fun r i wr => ∃ z : Int, -1 ≤ z ∧ z < n ∧ i = .int .i64 z ∧ r = .int .i64 (gRest cs a (z + 1).toNat) ∧ Oi wr w.heap.size (some ⟨w.heap.size, 0, none⟩) n n (gOut cs a (z + 1).toNat) ∧ Below w.heap.size w wr) (fun _ i _ => (intOf i + 1).toNat)
  case atStart =>
    have e := gRest_end (a := a) HL.out
    refine ⟨(n : Int) - 1, by omega, by omega, by go_num, ?_, ?_, hb1⟩
    · rw [show ((n : Int) - 1 + 1).toNat = n by omega, e.1]
    · rw [show ((n : Int) - 1 + 1).toNat = n by omega, e.2]; exact hr1
  case round =>
    obtain ⟨z, hz0, hz1, rfl, rfl, ho, hb⟩ := hrel
    have hsz := hb.size
    by_cases hge : 0 ≤ z
    · obtain ⟨j, rfl⟩ : ∃ j : Nat, z = j := ⟨z.toNat, by omega⟩
      have hj : j < n := by omega
      rw [show ((j : Int) + 1).toNat = j + 1 by omega] at ho ⊢
      obtain ⟨ad, x, rfl, hadb, hc0, hxk, _⟩ := hx.at_ hj
      have hxr := HC.out x (List.mem_of_getElem? hxk.out)
      obtain ⟨hx1, hx50⟩ := hxr
      have HR1 := Lib.hid (gRest_step (a := a) hxk.out)
      have HR2 := Lib.hid (gOut_step (a := a) hxk.out)
      have HRB := gRest_bd HC1.out ha0 (j + 1)
      have HOZ := Lib.hid (gOut_zero (cs := cs) (a := a) (k := j))
      have HOL : Hid ((gOut cs a (j + 1)).length = n) := Lib.hid (by rw [gOut_len (by rw [HL.out]; omega), HL.out])
      obtain ⟨R, HR⟩ : ∃ R, Hid (gRest cs a (j + 1) = R) := ⟨_, Lib.hid rfl⟩
      obtain ⟨G, HG⟩ : ∃ G, Hid (gOut cs a (j + 1) = G) := ⟨_, Lib.hid rfl⟩
      rw [HR.out] at HRB ⊢
      rw [HG.out] at ho
      obtain ⟨hR0, hR1⟩ := HRB
      go_wp2
      go_loopw [7] (fun r w3 => ∃ q : Nat, r = .int .i64 (R - q * x) ∧ (q : Int) * x ≤ R ∧ (q : Int) ≤ R ∧ Oi w3 w.heap.size (some ⟨w.heap.size, 0, none⟩) n n (G.set j q) ∧ Below w.heap.size w w3) (fun r _ => (intOf r).toNat)
      case atStart =>
        refine ⟨0, by simp, by simp; omega, by omega, ?_, hb⟩
        have e : G.set j ((0 : Nat) : Int) = G := List.ext_getElem? fun i => by
          rw [List.getElem?_set]
          split
          · rename_i h
            subst h
            have hl := HOL.out
            have h0 := HOZ.out
            rw [HG.out] at hl h0
            rw [if_pos (by omega), some_nth (by omega), h0]
            rfl
          · rfl
        rw [e]
        exact ho
      case round =>
        obtain ⟨q, rfl, hq, hqR, ho3, hb3⟩ := hrel
        have hc3 : wr.cell? (ad.add j) = some (.int .i64 x) := (hb3.cell (by rw [addr_block]; exact hadb)).trans hc0
        have hcell := ho3.cell hj
        have HGL : Hid (G.length = n) := Lib.hid (by rw [← HG.out]; exact HOL.out)
        rw [nth_set (by rw [HGL.out]; exact hj), if_pos rfl] at hcell
        have hfr := ho3.frozen j
        by_cases hle : x ≤ R - q * x
        · have hw1 : IntKind.i64.wrap ((q : Int) + 1) = (q : Int) + 1 := IntWalk.i64_in _ (by omega)
          have hw2 : IntKind.i64.wrap (R - q * x - x) = R - q * x - x := IntWalk.i64_in _ (by
            have : 0 ≤ (q : Int) * x := Int.mul_nonneg (by omega) (by omega)
            omega)
          have hfar : (wr.setCell ⟨w.heap.size, j, none⟩ (.int .i64 ((q : Int) + 1))).cell? (ad.add j) = some (.int .i64 x) := (World.cell?_setCell_other _ _ _ _ (fun e => by
            have := congrArg Addr.block e
            rw [addr_block] at this
            simp at this
            omega)).trans hc3
          have HQ : Hid (((q + 1 : Nat) : Int) * x = q * x + x) := Lib.hid (by rw [Int.natCast_add, Int.add_mul]; omega)
          have hq1 : (q : Int) + 1 ≤ R := by
            have : ((q + 1 : Nat) : Int) * 1 ≤ ((q + 1 : Nat) : Int) * x := Int.mul_le_mul_of_nonneg_left hx1 (by omega)
            rw [HQ.out] at this
            omega
          go_wp2
          go_roundw
          case rel =>
            refine ⟨q + 1, by rw [HQ.out, Int.sub_sub], by rw [HQ.out]; omega, by omega, ?_, hb3.setCell (Nat.le_refl _) _⟩
            have h := ho3.put_ j ((q : Int) + 1)
            rw [List.set_set] at h
            exact h
          case measure => simp [intOf]; omega
        · have HD := Lib.hid (div_found hx1 hq (by omega))
          have HNX : Hid (G.set j (q : Int) = gOut cs a j ∧ R - q * x = gRest cs a j) := Lib.hid ⟨by rw [HR2.out, HG.out, HR.out, HD.out.1], by rw [HR1.out, HR.out, HD.out.2]⟩
          have hjj : ((j : Int) - 1 + 1).toNat = j := by omega
          have hw2 : IntKind.i64.wrap ((j : Int) - 1) = (j : Int) - 1 := IntWalk.i64_in _ (by omega)
          go_wp2
          go_roundw
          case rel => exact ⟨(j : Int) - 1, by omega, by omega, by go_num, by rw [hjj, HNX.out.2], by rw [hjj, ← HNX.out.1]; exact ho3, hb3⟩
          case measure => simp [intOf]
    · have HZ : Hid ((z + 1).toNat = 0) := Lib.hid (by omega)
      rw [HZ.out] at ho ⊢
      rw [(gRest_all cs a).2] at ho
      rw [(gRest_all cs a).1]
      go_wp2
      go_ret2
      exact ⟨_, _, rfl, ho, hb⟩

set_option maxHeartbeats 1000000 in
theorem rGreedyT (A : Option Addr) (n c : Nat) (cs : List Int) (a : Int) (w : World) (hx : Ri w w.heap.size A n cs) (hn : n ≤ 1048576) (L : List Int) (s r : Int) (HR : Hid (greedyS cs a = (L, s, r))) : Calls Try.prog 29 #[.slice A n c, .int .i64 a] w (RetLI w L s r) := by
  obtain ⟨q, HQ⟩ : ∃ q, Hid (amountE cs a = q) := ⟨_, Lib.hid rfl⟩
  have HL := Lib.hid hx.len
  by_cases h0 : q = 0
  · subst h0
    obtain ⟨hg, ha0, ha1⟩ := amountE_ok.1 HQ.out
    have hn5 : n ≤ 5 := by rw [← HL.out]; exact hg.hi
    have HC : Hid (∀ c ∈ cs, 1 ≤ c ∧ c ≤ 50) := Lib.hid hg.all
    have HE : Hid ((greedyL cs a).1 = L ∧ (greedyL cs a).2 = s ∧ 0 = r) := Lib.hid (by
      have e := HR.out
      unfold greedyS at e
      rw [if_pos HQ.out] at e
      cases e
      exact ⟨rfl, rfl, rfl⟩)
    clear hg
    go_enter Try.func29, Try.ntmps29
    go_wp2_with fail
    refine (rAmount _ _ _ _ _ _ _ hx (by omega) _ HQ).mono ?_
    rintro e w1 ⟨rfl, m, rfl⟩
    go_wp2_with fail
    refine (rGreedyOf _ _ _ _ _ _ (hx.drewN m) hn5 ha0 ha1 HC).mono ?_
    rintro e w2 ⟨A', c', rfl, ho, hb⟩
    have hb2 := below_d hb
    clear hb
    go_wp2
    go_ret3
    exact ⟨_, _, _, ret_li HE.out.2.2 HE.out.2.1, by rw [← HE.out.1]; exact ho, hb2⟩
  · have HE : Hid ([] = L ∧ 0 = s ∧ q = r) := Lib.hid (by
      have e := HR.out
      unfold greedyS at e
      rw [if_neg (by rw [HQ.out]; exact h0), HQ.out] at e
      cases e
      exact ⟨rfl, rfl, rfl⟩)
    have hq := ne0 h0
    go_enter Try.func29, Try.ntmps29
    go_wp2_with fail
    refine (rAmount _ _ _ _ _ _ _ hx (by omega) _ HQ).mono ?_
    rintro e w1 ⟨rfl, m1, rfl⟩
    go_wp2_with fail
    refine (rAmount _ _ _ _ _ _ _ (hx.drewN m1) (by omega) _ HQ).mono ?_
    rintro e w1 ⟨rfl, m2, rfl⟩
    go_wp2
    go_ret3
    exact ⟨none, 0, 0, ret_li HE.out.2.2 HE.out.2.1, by rw [← HE.out.1]; exact Oi.nil_ _ _, below_d0 _ _⟩
end Go.Proofs.Ytloibnmhgocboaa
