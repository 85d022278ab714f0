import Derived.Test.YtloibnmhgocboaaQuiet
import Derived.Test.YtloibnmhgocboaaPL
import Derived.Test.YtloibnmhgocboaaR2
import Derived.Test.YtloibnmhgocboaaF10
import Derived.Test.YtloibnmhgocboaaPost
namespace Go.Proofs.Ytloibnmhgocboaa
open Go.RowKit

theorem aLongsOf (v : Value) (w : World) : Calls Try.prog 53 #[v] w fun e w' => e = .returned v ∧ w = w' := by
  go_enter Try.func53, Try.ntmps53
  go_wp2
  go_ret
  exact ⟨rfl, rfl⟩
theorem aGreat (A : Option Addr) (n c : Nat) (w : World) (r : Bool) (HR : Hid (decide (10 < n) = r)) : Calls Try.prog 18 #[.slice A n c] w fun e w' => e = .returned (.bool r) ∧ w = w' := by
  by_cases h : 10 < n
  · have HE : Hid (r = true) := Lib.hid (by rw [← HR.out]; exact decide_eq_true h)
    go_enter Try.func18, Try.ntmps18
    go_wp2
    go_ret
    exact ⟨ret_b (by rw [HE.out]; simp; omega), rfl⟩
  · have HE : Hid (r = false) := Lib.hid (by rw [← HR.out]; exact decide_eq_false h)
    go_enter Try.func18, Try.ntmps18
    go_wp2
    go_ret
    exact ⟨ret_b (by rw [HE.out]; simp; omega), rfl⟩

set_option maxHeartbeats 400000 in
theorem aLongs (A1 A2 : Option Addr) (n1 c1 n2 c2 B1 B2 : Nat) (xs ys : List Int) (w : World) (hx : Ri w B1 A1 n1 xs) (hy : Ri w B2 A2 n2 ys) (hn : n1 ≤ 9223372036854775807) (hn2 : n2 ≤ 9223372036854775807) (r : Bool) (HR : Hid (decide (xs = ys) = r)) :
    Calls Try.prog 30 #[.slice A1 n1 c1, .slice A2 n2 c2] w fun e w' => e = .returned (.bool r) ∧ ∃ d, w' = w.drewN d := by
  have HLX := Lib.hid hx.len
  have HLY := Lib.hid hy.len
  by_cases hl : n1 = n2
  · subst hl
    go_enter Try.func30, Try.ntmps30
    go_wp2
    go_loopw [5] (fun i wr => ∃ k d : Nat, k ≤ n1 ∧ i = .int .i64 k ∧ wr = w.drewN d ∧ Hid (xs.take k = ys.take k)) (fun i _ => n1 - (intOf i).toNat)
    case atStart => exact ⟨0, 0, Nat.zero_le _, rfl, rfl, Lib.hid rfl⟩
    case round =>
      obtain ⟨k, d, hk, rfl, rfl, HT⟩ := hrel
      by_cases hlt : k < n1
      · obtain ⟨ad, x, rfl, _, hc, hxk, _⟩ := hx.at_ hlt
        obtain ⟨ad2, y, rfl, _, hc2, hyk, _⟩ := hy.at_ hlt
        by_cases he : x = y
        · have hb : (x != y) = false := by simp [he]
          have HT2 : Hid (xs.take (k + 1) = ys.take (k + 1)) := Lib.hid (by rw [take_snoc hxk.out, take_snoc hyk.out, HT.out, he])
          clear he
          go_wp2
          go_quiet (fail)
          go_wp2
          go_roundw
          case rel => exact ⟨k + 1, _, by omega, by go_num, rfl, HT2⟩
          case measure => simp [intOf]; omega
        · have hb : (x != y) = true := by simp [he]
          have HE : Hid (r = false) := Lib.hid (by
            rw [← HR.out]
            refine decide_eq_false fun e => he ?_
            have h1 := hxk.out
            rw [e, hyk.out] at h1
            exact (Option.some.inj h1).symm)
          clear he
          go_wp2
          go_quiet (fail)
          go_wp2
          go_ret
          exact ⟨ret_b HE.out.symm, d + _, by simp [World.drewN, Nat.add_assoc]; rfl⟩
      · have HE : Hid (r = true) := Lib.hid (by
          rw [← HR.out]
          refine decide_eq_true ?_
          have h := HT.out
          rwa [List.take_of_length_le (by rw [HLX.out]; omega), List.take_of_length_le (by rw [HLY.out]; omega)] at h)
        go_wp2
        go_ret
        exact ⟨ret_b HE.out.symm, d, rfl⟩
  · have HE : Hid (r = false) := Lib.hid (by
      rw [← HR.out]
      refine decide_eq_false fun e => hl ?_
      rw [← HLX.out, ← HLY.out, e])
    go_enter Try.func30, Try.ntmps30
    go_wp2
    go_ret
    exact ⟨ret_b HE.out.symm, 0, rfl⟩
theorem Oi.most {w : World} {base n c : Nat} {A : Option Addr} {xs : List Int} (h : Oi w base A n c xs) : n ≤ 9223372036854775807 := by
  rcases h.2 with ⟨h', h0⟩ | ⟨g, cap, cur, h1, _, _, h2, h3, _⟩
  · omega
  · injection h1 with _ e2 e3
    subst e3
    unfold maxLen at h3
    omega
theorem Oi.cap {w : World} {base n c : Nat} {A : Option Addr} {xs : List Int} (h : Oi w base A n c xs) : n ≤ c := by
  rcases h.2 with ⟨h', h2⟩ | ⟨g', cap', cur, h', _, _, h4, _⟩
  · cases h'
    simp_all
  · cases h'
    exact h4
theorem aLongsT (A1 A2 : Option Addr) (n1 c1 n2 c2 B1 B2 : Nat) (xs ys : List Int) (w : World) (hx : Ri w B1 A1 n1 xs) (hy : Ri w B2 A2 n2 ys) (hn : n1 ≤ 9223372036854775807) (hn2 : n2 ≤ 9223372036854775807) (r : Bool) (HR : Hid (decide (xs = ys) = r)) :
    Calls Try.prog 30 #[.slice A1 n1 c1, .slice A2 n2 c2] w (RetB w r) :=
  (aLongs A1 A2 n1 c1 n2 c2 B1 B2 xs ys w hx hy hn hn2 r HR).mono fun _ _ ⟨h1, _, h2⟩ => ⟨h1, h2 ▸ below_drewN (Below.refl _ _) _⟩
theorem aK (w : World) : Calls Try.prog 57 #[] w fun e w' => e = .returned (.slice (some ⟨w.heap.size, 0, none⟩) 3 3) ∧ Ri w' w'.heap.size (some ⟨w.heap.size, 0, none⟩) 3 [1, 4, 6] ∧ Below w.heap.size w w' := by
  have h1 := (Oi.lit w #[.int .i64 1, .int .i64 4, .int .i64 6] 3 [1, 4, 6] rfl rfl (by omega)).ri
  go_enter Try.func57, Try.ntmps57
  go_wp2_with fail
  refine (aLongsOf _ _).mono ?_
  rintro e w' ⟨rfl, rfl⟩
  go_wp2
  go_ret
  exact ⟨rfl, h1, (Below.refl _ _).alloc (Nat.le_refl _) _⟩
theorem aT (w : World) : Calls Try.prog 58 #[] w fun e w' => e = .returned (.slice (some ⟨w.heap.size, 0, none⟩) 2 2) ∧ Ri w' w'.heap.size (some ⟨w.heap.size, 0, none⟩) 2 [5, 8] ∧ Below w.heap.size w w' := by
  have h1 := (Oi.lit w #[.int .i64 5, .int .i64 8] 2 [5, 8] rfl rfl (by omega)).ri
  go_enter Try.func58, Try.ntmps58
  go_wp2_with fail
  refine (aLongsOf _ _).mono ?_
  rintro e w' ⟨rfl, rfl⟩
  go_wp2
  go_ret
  exact ⟨rfl, h1, (Below.refl _ _).alloc (Nat.le_refl _) _⟩
theorem aE (w : World) : Calls Try.prog 59 #[] w fun e w' => e = .returned (.slice (some ⟨w.heap.size, 0, none⟩) 2 2) ∧ Ri w' w'.heap.size (some ⟨w.heap.size, 0, none⟩) 2 [4, 6] ∧ Below w.heap.size w w' := by
  have h1 := (Oi.lit w #[.int .i64 4, .int .i64 6] 2 [4, 6] rfl rfl (by omega)).ri
  go_enter Try.func59, Try.ntmps59
  go_wp2_with fail
  refine (aLongsOf _ _).mono ?_
  rintro e w' ⟨rfl, rfl⟩
  go_wp2
  go_ret
  exact ⟨rfl, h1, (Below.refl _ _).alloc (Nat.le_refl _) _⟩
set_option maxHeartbeats 400000 in
theorem aFine (A : Option Addr) (n c B : Nat) (cs : List Int) (w : World) (hx : Ri w B A n cs) (hn : n ≤ 1048576) (r : Bool) (HR : Hid (decide (checkCoins cs = 0) = r)) : Calls Try.prog 49 #[.slice A n c] w fun e w' => e = .returned (.bool r) ∧ ∃ d, w' = w.drewN d := by
  have HL := Lib.hid hx.len
  by_cases hg : 10 < n
  · have HG : Hid (decide (10 < n) = true) := Lib.hid (decide_eq_true hg)
    have HE : Hid (r = false) := Lib.hid (by
      rw [← HR.out]
      refine decide_eq_false fun h => ?_
      have := (checkCoins_good.1 h).hi
      rw [HL.out] at this
      omega)
    go_enter Try.func49, Try.ntmps49
    go_wp2_with fail
    refine (aGreat _ _ _ _ _ HG).mono ?_
    rintro e w' ⟨rfl, rfl⟩
    go_wp2
    go_ret
    exact ⟨ret_b HE.out.symm, 0, rfl⟩
  · have HG : Hid (decide (10 < n) = false) := Lib.hid (decide_eq_false hg)
    obtain ⟨q, HQ⟩ : ∃ q, Hid (checkCoins cs = q) := ⟨_, Lib.hid rfl⟩
    have HE : Hid (decide (q = 0) = r) := Lib.hid (by rw [← HQ.out]; exact HR.out)
    go_enter Try.func49, Try.ntmps49
    go_wp2_with fail
    refine (aGreat _ _ _ _ _ HG).mono ?_
    rintro e w' ⟨rfl, rfl⟩
    go_wp2_with fail
    refine (rCheckCoins _ _ _ _ _ _ hx (by omega) _ HQ).mono ?_
    rintro e w' ⟨rfl, d, rfl⟩
    go_wp2
    go_ret
    exact ⟨ret_b (by rw [← HE.out]; rfl), d, rfl⟩
theorem aAmounted (x : Int) (h0 : 0 ≤ x) (h1 : x ≤ 65535) (w : World) : Calls Try.prog 50 #[.int .u16 x] w fun e w' => e = .returned (.int .i64 (x % 301)) ∧ w = w' := by
  have hw0 : IntKind.i64.wrap x = x := IntWalk.i64_in _ (by omega)
  have e1 : x.tmod 301 = x % 301 := Int.tmod_eq_emod_of_nonneg h0
  have hw1 : IntKind.i64.wrap (x % 301) = x % 301 := IntWalk.i64_in _ (by omega)
  go_enter Try.func50, Try.ntmps50
  go_wp2
  go_ret
  exact ⟨rfl, rfl⟩
theorem ret_ibb {a b : Int} {c d e : Bool} (h : a = b) (k : c = d) : Ending.returned (.tuple #[.int .i64 a, .bool c, .bool e]) = .returned (.tuple #[.int .i64 b, .bool d, .bool e]) := by rw [h, k]
def paidV (cs : List Int) (a : Int) : Int × Bool := if few cs a.toNat < 0 then (0, false) else (few cs a.toNat, true)
set_option maxHeartbeats 1000000 in
theorem aPaid (A : Option Addr) (n c : Nat) (cs : List Int) (a : Int) (w : World) (hx : Ri w w.heap.size A n cs) (hn : n ≤ 1048576) (hc : n ≤ c) (HA : Hid (amountE cs a = 0)) (m : Int) (b : Bool) (HM : Hid (paidV cs a = (m, b))) :
    Calls Try.prog 51 #[.slice A n c, .int .i64 a] w fun e w' => e = .returned (.tuple #[.int .i64 m, .bool b, .bool true]) ∧ Below w.heap.size w w' := by
  have HL := Lib.hid hx.len
  have HG := Lib.hid (amountE_ok.1 HA.out)
  by_cases hf : few cs a.toNat < 0
  · have HC := Lib.hid (change_none HG.out.1 HG.out.2.1 HG.out.2.2 hf)
    have HE : Hid (0 = m ∧ false = b) := Lib.hid (by have e := HM.out; unfold paidV at e; rw [if_pos hf] at e; cases e; exact ⟨rfl, rfl⟩)
    clear hf
    go_enter Try.func51, Try.ntmps51
    go_wp2_with fail
    refine (fFewestT _ _ _ _ _ _ hx hn hc 0 5 (Lib.hid HC.out.2)).mono ?_
    rintro e w1 ⟨rfl, hb1⟩
    have hx1 := hx.next hb1 (Nat.le_refl _) hb1.size
    go_wp2_with fail
    refine (fChangeT _ _ _ _ _ _ hx1 hn hc [] 5 (Lib.hid HC.out.1)).mono ?_
    rintro e w2 ⟨A2, n2, c2, rfl, ho, hb2⟩
    have hb3 := hb1.trans (hb2.mono hb1.size)
    obtain rfl : n2 = 0 := ho.len.symm
    clear ho hx1 hb1 hb2
    go_wp2
    go_ret3
    exact ⟨ret_ibb HE.out.1 HE.out.2, hb3⟩
  · have hf0 : 0 ≤ few cs a.toNat := by omega
    have HC := Lib.hid (change_best HG.out.1 HG.out.2.1 HG.out.2.2 hf0)
    have HF := Lib.hid (fewest_is HG.out.1 HG.out.2.1 HG.out.2.2 hf0)
    have HE : Hid (few cs a.toNat = m ∧ true = b) := Lib.hid (by have e := HM.out; unfold paidV at e; rw [if_neg hf] at e; cases e; exact ⟨rfl, rfl⟩)
    have hm1 : m ≤ 300 := by rw [← HE.out.1]; exact HF.out.2
    obtain ⟨L, HLL⟩ : ∃ L, Hid (chg cs (fullStock cs) a (few cs a.toNat) = L) := ⟨_, Lib.hid rfl⟩
    have H1 : Hid (fewestS cs a = (m, 0)) := Lib.hid (by rw [HF.out.1, HE.out.1])
    have H2 : Hid (changeS cs a = (L, 0)) := Lib.hid (by rw [HC.out.1, HLL.out])
    have H3 : Hid (changeCS cs L = (a, m, 0)) := Lib.hid (by rw [← HLL.out, HC.out.2.1, HE.out.1])
    have H4 : Hid (L.length = n) := Lib.hid (by rw [← HLL.out, ← HL.out]; exact HC.out.2.2.len)
    clear hf hf0
    go_enter Try.func51, Try.ntmps51
    go_wp2_with fail
    refine (fFewestT _ _ _ _ _ _ hx hn hc m 0 H1).mono ?_
    rintro e w1 ⟨rfl, hb1⟩
    have hx1 := hx.next hb1 (Nat.le_refl _) hb1.size
    go_wp2_with fail
    refine (fChangeT _ _ _ _ _ _ hx1 hn hc L 0 H2).mono ?_
    rintro e w2 ⟨A2, n2, c2, rfl, ho, hb2⟩
    have hb3 := hb1.trans (hb2.mono hb1.size)
    have hx2 := hx1.next hb2 (Nat.le_refl _) hb2.size
    obtain rfl : n2 = n := by rw [← ho.len, H4.out]
    clear hb1 hb2
    go_wp2_with fail
    refine (rCheckChange _ _ _ _ _ _ _ _ _ hx2 ho.ri hn hn a m 0 H3).mono ?_
    rintro e w3 ⟨rfl, d, rfl⟩
    go_wp2
    go_ret3
    exact ⟨ret_ibb rfl HE.out.2, below_drewN hb3 d⟩
end Go.Proofs.Ytloibnmhgocboaa
