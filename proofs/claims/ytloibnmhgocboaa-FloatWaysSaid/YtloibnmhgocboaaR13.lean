/-
  The reference: Pay.
-/
import Derived.Test.YtloibnmhgocboaaR11
import Derived.Test.YtloibnmhgocboaaR12
import Derived.Test.YtloibnmhgocboaaR9
namespace Go.Proofs.Ytloibnmhgocboaa
open Go.RowKit

theorem pay_cases {cs st : List Int} {a r : Int} {L : List Int} (h : payS cs st a = (L, r)) (hs : stockE cs st a = 0) : Good cs ∧ st.length = cs.length ∧ (∀ s ∈ st, 0 ≤ s ∧ s ≤ 20) ∧ ∃ N : Nat, a = N ∧ N ≤ 300 ∧ ((gmin cs st (N : Int) < 0 ∧ L = [] ∧ r = 5) ∨ (0 ≤ gmin cs st (N : Int) ∧ r = 0 ∧ ChgAt cs st L 0 [] (N : Int) (gmin cs st (N : Int)))) := by
  unfold payS at h
  rw [if_pos hs] at h
  unfold stockE at hs
  by_cases h0 : amountE cs a = 0
  · rw [if_pos h0] at hs
    obtain ⟨hg, ha0, ha1⟩ := amountE_ok.1 h0
    obtain ⟨N, rfl⟩ : ∃ N : Nat, a = N := ⟨a.toNat, by omega⟩
    by_cases h1 : st.length = cs.length
    · rw [if_neg (by omega)] at hs
      have h2 : st.any (outB 0 20) = false := by
        cases e : st.any (outB 0 20) with
        | false => rfl
        | true => rw [e] at hs; cases hs
      have h3 := any_out.1 h2
      refine ⟨hg, h1, h3, N, rfl, by omega, ?_⟩
      unfold bestL at h
      have hle := gmin_le (a := (N : Int)) hg.pos (fun s hh => (h3 s hh).1) h1 (by omega)
      split at h
      · cases h
        exact .inl ⟨by assumption, rfl, rfl⟩
      · cases h
        exact .inr ⟨by omega, rfl, chgAt_start (by omega) (by omega) (by omega) hle.2⟩
    · rw [if_pos h1] at hs
      cases hs
  · rw [if_neg h0] at hs
    exact absurd hs h0
set_option maxRecDepth 100000 in
set_option maxHeartbeats 8000000 in
theorem rPayT (A : Option Addr) (n c : Nat) (cs : List Int) (D : Option Addr) (n2 c2 : Nat) (st : List Int) (a : Int) (w : World) (hx : Ri w w.heap.size A n cs) (hy : Ri w w.heap.size D n2 st) (hn : n ≤ 1048576) (hn2 : n2 ≤ 1048576) (L : List Int) (r : Int) (HR : Hid (payS cs st a = (L, r))) :
    Calls Try.prog 48 #[.slice A n c, .slice D n2 c2, .int .i64 a] w (RetLE w L r) := by
  obtain ⟨q, HQ⟩ : ∃ q, Hid (stockE cs st a = q) := ⟨_, Lib.hid rfl⟩
  have HL := Lib.hid hx.len
  have HL2 := Lib.hid hy.len
  by_cases h0 : q = 0
  · subst h0
    obtain ⟨hg, hll, hss, N, rfl, hN, hcases⟩ := pay_cases HR.out HQ.out
    have HG := Lib.hid hg
    have HLL := Lib.hid hll
    have HS := Lib.hid hss
    have HC : Hid (∀ c ∈ cs, 1 ≤ c ∧ c ≤ 50) := Lib.hid hg.all
    have hn5 : n ≤ 5 := by rw [← HL.out]; exact hg.hi
    obtain rfl : n = n2 := by rw [← HL.out, ← HL2.out, hll]
    clear hg hll hss
    obtain ⟨g, HGG⟩ : ∃ g, Hid (gmin cs st (N : Int) = g) := ⟨_, Lib.hid rfl⟩
    rw [HGG.out] at hcases
    have HCASE := Lib.hid hcases
    clear hcases
    obtain ⟨M, HM⟩ : ∃ M, Hid (N + 1 = M) := ⟨_, Lib.hid rfl⟩
    have hNM : N < M := by have := HM.out; omega
    go_enter Try.func48, Try.ntmps48
    go_wp2_with fail
    refine (rCheckStock A n c cs D n c2 st (N : Int) w hx hy hn hn 0 HQ).mono ?_
    rintro e w1 ⟨rfl, m1, rfl⟩
    go_wp2_with fail
    refine (rPaid A n c cs D c2 st N _ (hx.drewN m1) (hy.drewN m1) hn5 hN HC HS).mono ?_
    rintro e w2 ⟨AT, cT, rfl, hRT, hbT⟩
    rw [HM.out] at hRT
    have hb1 := below_d hbT
    have hs1 := hb1.size
    have h_d := Ri.next hx hb1 (Nat.le_refl _) hs1
    clear hbT
    obtain ⟨ad0, g0, c0, L0, hA0, _, hadT, hc0, HL0, hO0⟩ := hRT.at_ (i := n) (by omega)
    subst hA0
    have hcg := hO0.cell hNM
    rw [show nth L0 N = g by rw [payT_at HL0.out, nth_rowN (Nat.le_refl _), Nat.sub_self]; exact HGG.out] at hcg
    have hnl : n < n + 1 := by omega
    by_cases hgn : g < 0
    · have HE : Hid (L = [] ∧ r = 5) := Lib.hid (by
        rcases HCASE.out with ⟨_, h2⟩ | ⟨h2, _⟩
        · exact h2
        · omega)
      obtain ⟨rfl, rfl⟩ := HE.out
      go_wp2
      go_ret2
      exact ⟨none, 0, 0, rfl, Oi.nil_ _ _, hb1⟩
    · have HE : Hid (r = 0 ∧ ChgAt cs st L 0 [] (N : Int) g) := Lib.hid (by
        rcases HCASE.out with ⟨h2, _⟩ | ⟨_, h2⟩
        · omega
        · exact h2)
      obtain rfl : r = 0 := HE.out.1
      have HST := Lib.hid HE.out.2
      go_wp2
      go_loopw [10, 11, 12] (fun o rv i wr => ∃ (k c' u : Nat) (A' : Option Addr) (P : List Int) (left : Int), k ≤ n ∧ i = .int .i64 k ∧ o = .slice A' k c' ∧ rv = .int .i64 (u : Int) ∧ u ≤ N ∧ Hid (ChgAt cs st L k P (u : Int) left) ∧ Oi wr w2.heap.size A' k c' P ∧ Below w2.heap.size w2 wr) (fun _ _ i _ => n - (intOf i).toNat)
      case atStart => exact ⟨0, 0, N, none, [], _, Nat.zero_le _, rfl, rfl, rfl, Nat.le_refl _, HST, Oi.nil_ _ _, Below.refl _ _⟩
      case round =>
        obtain ⟨k, c', u, A', P, left, hk, rfl, rfl, rfl, huN, HCH, ho, hb⟩ := hrel
        have hsz := hb.size
        obtain ⟨V, hV⟩ : ∃ V : World, V = wr := ⟨_, rfl⟩
        subst hV
        have hle := HCH.out.left
        by_cases hlt : k < n
        · obtain ⟨ad, x, hA, hadb, hcv, hxk, _⟩ := h_d.at_ hlt
          subst hA
          have hxb := HC.out x (List.mem_of_getElem? hxk.out)
          obtain ⟨hx1, hx50⟩ := hxb
          have hk2 : k < st.length := by rw [HLL.out, HL.out]; exact hlt
          have hsb := HS.out _ (List.getElem_mem hk2)
          obtain ⟨p, _, hp2, hp3, hp4, hp5, hp6⟩ := chgAt_next HCH.out hxk.out (List.getElem?_eq_getElem hk2) hx1 hsb.1
          obtain ⟨k1, HK1⟩ : ∃ k1 : Nat, Hid (k + 1 = k1) := ⟨_, Lib.hid rfl⟩
          have hk1n : k1 ≤ n := by have := HK1.out; omega
          rw [HK1.out] at hp4 hp5 hp6
          have HP4 := Lib.hid hp4
          have HP5 := Lib.hid hp5
          have HP6 := Lib.hid hp6
          have HP2 := Lib.hid hp2
          have HBE := Lib.hid HCH.out.best
          clear hp2 hp4 hp5 hp6 hsb
          obtain ⟨q1, HQ1⟩ : ∃ q1 : Nat, Hid (n = k + 1 + q1) := ⟨n - (k + 1), Lib.hid (by omega)⟩
          obtain ⟨q2, HQ2⟩ : ∃ q2 : Nat, Hid (q2 = q1 + 1) := ⟨_, Lib.hid rfl⟩
          have hi0 : IntKind.i64.wrap ((n : Int) - 1) = (n : Int) - 1 := IntWalk.i64_in _ (by omega)
          have hi1 : (n : Int) - 1 - k = q1 := by have := HQ1.out; omega
          have hi2 : (n : Int) - k = q2 := by have := HQ1.out; have := HQ2.out; omega
          have hq1n : q1 < n + 1 := by have := HQ1.out; omega
          have hq2n : q2 < n + 1 := by have := HQ1.out; have := HQ2.out; omega
          have hi3 : IntKind.i64.wrap (q1 : Int) = q1 := IntWalk.i64_in _ (by omega)
          have hi4 : IntKind.i64.wrap (q2 : Int) = q2 := IntWalk.i64_in _ (by omega)
          have HN1 : Hid (n - q1 = k1) := Lib.hid (by have := HQ1.out; have := HK1.out; omega)
          have HN2 : Hid (n - q2 = k) := Lib.hid (by have := HQ1.out; have := HQ2.out; omega)
          have huM : u < M := by omega
          go_wp2
          go_loopw [13] (fun nv wr2 => ∃ j d : Nat, j ≤ p ∧ nv = .int .i64 j ∧ wr2 = V.drewN d) (fun nv _ => p - (intOf nv).toNat)
          case atStart => exact ⟨0, 0, Nat.zero_le _, rfl, rfl⟩
          case round =>
            obtain ⟨j, d, hj, rfl, rfl⟩ := hrel
            have hRV := hRT.below hb
            have hcv2 : V.cell? (ad.add k) = some (.int .i64 x) := (hb.cell (by rw [addr_block]; exact hadb)).trans hcv
            have hmm := mul_mid hj hx1
            have hp2 := HP2.out
            obtain ⟨m, hm⟩ : ∃ m : Int, (j : Int) * x = m := ⟨_, rfl⟩
            rw [hm] at hmm
            have hwm : IntKind.i64.wrap m = m := IntWalk.i64_in _ (by omega)
            obtain ⟨v, hv⟩ : ∃ v : Nat, (u : Int) - m = (v : Int) := ⟨((u : Int) - m).toNat, by omega⟩
            have hwv : IntKind.i64.wrap (v : Int) = v := IntWalk.i64_in _ (by omega)
            obtain ⟨z, hz⟩ : ∃ z : Int, left - j = z := ⟨_, rfl⟩
            have hwz : IntKind.i64.wrap z = z := IntWalk.i64_in _ (by omega)
            have hvN : v ≤ N := by omega
            have hvM : v < M := by omega
            obtain ⟨adx, g1, c1, L1, hAx, _, _, hc1, HL1, hO1⟩ := hRV.at_ hq1n
            obtain rfl : ad0 = adx := by injection hAx
            obtain ⟨ady, g2, c2', L2, hAy, _, _, hc2, HL2', hO2⟩ := hRV.at_ hq2n
            obtain rfl : ad0 = ady := by injection hAy
            have e1 := hO1.cell hvM
            have e2 := hO2.cell huM
            obtain ⟨y, HY⟩ : ∃ y, Hid (gmin (cs.drop k1) (st.drop k1) (v : Int) = y) := ⟨_, Lib.hid rfl⟩
            rw [show nth L1 v = y by rw [payT_at HL1.out, nth_rowN hvN, HN1.out]; exact HY.out] at e1
            rw [show nth L2 u = left by rw [payT_at HL2'.out, nth_rowN huN, HN2.out]; exact HBE.out] at e2
            clear hp2 hAx hAy
            by_cases hjp : j < p
            · have hne : (y != z) = true := by
                have h : ¬ y = z := fun h => HP5.out j hjp (by rw [hm, hv, HY.out, hz]; exact h)
                simpa using h
              go_wp2
              go_quiet (fail)
              go_wp2
              go_roundw
              case rel => exact ⟨j + 1, _, by omega, by go_num, rfl⟩
              case measure => simp [intOf]; omega
            · obtain rfl : j = p := by omega
              have hyz : y = z := by rw [← HY.out, ← hv, ← hm, ← hz]; exact HP4.out
              have HN6 : Hid (ChgAt cs st L k1 (P ++ [(j : Int)]) (v : Int) z) := Lib.hid (by rw [← hv, ← hm, ← hz]; exact HP6.out)
              subst hyz
              have hne : (y != y) = false := by simp
              go_wp2
              go_quiet (fail)
              have hbx : Below w2.heap.size w2 (V.drewN (d + nq)) := below_drewN hb _
              have hsx : w2.heap.size ≤ (V.drewN (d + nq)).heap.size := hsz
              have ho3 : Oi (V.drewN (d + nq)) w2.heap.size A' k c' P := ho
              go_wp2_with ((at_builtin; refine push_int rfl (.tmp 74) (.tmp 76) rfl (w2.heap.size) A' k c' (P) rfl (ho3.alloc _) ⟨(V.drewN (d + nq)).heap.size, 0, none⟩ 1 _ rfl (cell_new1 _ _ _) (by omega) (by simp only [World.size_alloc]; omega) ?_; intro ga capa w1a hown1a hgrow1a); have hby := ho3.pushed hbx hsx (Nat.le_refl _) hgrow1a; have hcv4 : w1a.cell? (ad.add k) = some (.int .i64 x) := (hby.cell (by rw [addr_block]; exact hadb)).trans hcv)
              go_roundw
              case rel => exact ⟨k1, _, v, _, _, _, hk1n, by have := HK1.out; subst this; go_num, by have := HK1.out; subst this; rfl, rfl, hvN, HN6, by have := HK1.out; subst this; exact hown1a, hby⟩
              case measure => have := HK1.out; simp [intOf]; omega
        · obtain rfl : k = n := by omega
          obtain rfl : L = P := chgAt_end HL.out HCH.out
          go_wp2
          go_ret2
          exact ⟨_, _, _, rfl, ho.base hs1, hb1.trans (hb.mono hs1)⟩
  · have HE : Hid ([] = L ∧ q = r) := Lib.hid (by
      have e := HR.out
      unfold payS at e
      rw [if_neg (by rw [HQ.out]; exact h0), HQ.out] at e
      cases e
      exact ⟨rfl, rfl⟩)
    obtain ⟨rfl, rfl⟩ := HE.out
    have hq := ne0 h0
    go_enter Try.func48, Try.ntmps48
    go_wp2_with fail
    refine (rCheckStock A n c cs D n2 c2 st a w hx hy hn hn2 q HQ).mono ?_
    rintro e w1 ⟨rfl, m1, rfl⟩
    go_wp2_with fail
    refine (rCheckStock A n c cs D n2 c2 st a _ (hx.drewN m1) (hy.drewN m1) hn hn2 q HQ).mono ?_
    rintro e w1 ⟨rfl, m2, rfl⟩
    go_wp2
    go_ret2
    exact ⟨none, 0, 0, rfl, Oi.nil_ _ _, below_d0 _ _⟩
end Go.Proofs.Ytloibnmhgocboaa
