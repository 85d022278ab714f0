/-
  The program: CheckHeights, Bad.
-/
import Derived.Test.YtloibnmhgocboaaF2
namespace Go.Proofs.Ytloibnmhgocboaa
open Go.RowKit Go.Shelf

set_option maxRecDepth 100000 in
set_option maxHeartbeats 4000000 in
theorem fCheckHeightsT (A : Option Addr) (n c : Nat) (cs : List Int) (D : Option Addr) (n2 c2 : Nat) (hs : List Int) (w : World) (hx : Ri w w.heap.size A n cs) (hy : Ri w w.heap.size D n2 hs) (hn : n ≤ 1048576) (hn2 : n2 ≤ 1048576) (hc : n ≤ c) (hc2 : n2 ≤ c2) (r : Int) (HR : Hid (checkHeights cs hs = r)) :
    Calls Try.prog 33 #[.slice A n c, .slice D n2 c2] w (RetI w r) := by
  obtain ⟨q, HQ⟩ : ∃ q, Hid (checkCoins cs = q) := ⟨_, Lib.hid rfl⟩
  have HL := Lib.hid hx.len
  have HL2 := Lib.hid hy.len
  by_cases h0 : q = 0
  · subst h0
    have hg := checkCoins_good.1 HQ.out
    have HC : Hid (∀ c ∈ cs, 1 ≤ c ∧ c ≤ 50) := Lib.hid hg.all
    have hn5 : n ≤ 5 := by rw [← HL.out]; exact hg.hi
    clear hg
    obtain ⟨b1, HB1⟩ : ∃ b, Hid ([(n2 : Int)].any (outB 1 301) = b) := ⟨_, Lib.hid rfl⟩
    obtain ⟨b2, HB2⟩ : ∃ b, Hid (hs.any (outB 0 1000) = b) := ⟨_, Lib.hid rfl⟩
    go_enter Try.func33, Try.ntmps33
    go_wp2_with fail
    refine (fCheckCoins _ _ _ _ _ hx (by omega) hc _ HQ).mono ?_
    rintro e w1 ⟨rfl, hb1⟩
    have hlit := (Oi.lit1 w1 (n2 : Int)).ri
    go_wp2_with fail
    refine (fWithin _ _ _ _ _ _ _ hlit (by omega) _ HB1).mono ?_
    rintro e w2 ⟨rfl, hb2, hs2⟩
    clear hs2 hlit
    have hb3 : Below w.heap.size w w2 := hb1.trans (((Below.refl w.heap.size w1).alloc hb1.size _).trans (hb2.mono (by have := hb1.size; simp; omega)))
    clear hb1 hb2
    cases b1
    · have hnn : 1 ≤ n2 ∧ n2 ≤ 301 := by
        have := any_out.1 HB1.out (n2 : Int) (by simp)
        omega
      obtain ⟨hn21, hn301⟩ := hnn
      have HN : Hid (¬ (hs.length < 1 ∨ 301 < hs.length)) := Lib.hid (by rw [HL2.out]; omega)
      go_wp2_with fail
      refine (fWithin _ _ _ _ _ _ _ (hy.next hb3 (Nat.le_refl _) hb3.size) (by omega) _ HB2).mono ?_
      rintro e w3 ⟨rfl, hb4, hs4⟩
      clear hs4
      have hb5 := hb3.trans (hb4.mono hb3.size)
      clear hb3 hb4
      have hx3 := hx.below hb5
      have hy3 := hy.below hb5
      cases b2
      · have HV : Hid (∀ x ∈ hs, 0 ≤ x ∧ x ≤ 1000) := Lib.hid (any_out.1 HB2.out)
        obtain ⟨ad, h, rfl, hadb, hc0, hh0, _⟩ := hy3.at_ (k := 0) (by omega)
        rw [addr_zero] at hc0
        have hhb := HV.out h (List.mem_of_getElem? hh0.out)
        by_cases hz : 0 < h
        · have HE : Hid (14 = r) := Lib.hid (by
            have e := HR.out
            unfold checkHeights at e
            rwa [if_pos HQ.out, if_neg HN.out, HB2.out, if_neg (by decide), if_neg (by rw [nth_some hh0.out]; omega)] at e)
          go_wp2
          go_ret
          exact ⟨ret_i HE.out, hb5⟩
        · have HE : Hid ((if riseB cs hs then 0 else 14) = r) := Lib.hid (by
            have e := HR.out
            unfold checkHeights at e
            rwa [if_pos HQ.out, if_neg HN.out, HB2.out, if_neg (by decide), if_pos (by rw [nth_some hh0.out]; omega)] at e)
          go_wp2
          go_loop [33] (fun i => ∃ k : Nat, k ≤ n ∧ i = .int .i64 k ∧ Hid (∀ i' : Nat, i' < k → ∀ a : Nat, a + (nth cs i').toNat < n2 → nth hs (a + (nth cs i').toNat) ≤ nth hs a + 1)) (fun i => n - (intOf i).toNat)
          case atStart => exact ⟨0, Nat.zero_le _, rfl, Lib.hid (fun b hb => absurd hb (Nat.not_lt_zero b))⟩
          case round =>
            obtain ⟨k, hk, rfl, HRI⟩ := hrel
            by_cases hlt : k < n
            · obtain ⟨ad2, x, rfl, _, cx, hxk, _⟩ := hx3.at_ hlt
              have hxr := HC.out x (List.mem_of_getElem? hxk.out)
              obtain ⟨hx1, hx50⟩ := hxr
              have HXk : Hid (nth cs k = x) := Lib.hid (nth_some hxk.out)
              by_cases hxn : x ≤ (n2 : Int)
              · obtain ⟨p, rfl⟩ : ∃ p : Nat, x = (p : Int) := ⟨x.toNat, by omega⟩
                have HP : Hid (p = min ((p : Int)).toNat n2) := Lib.hid (by omega)
                have hpn : p ≤ n2 := by omega
                by_cases hcc : c2 = p
                · have hp2 : n2 = p := by omega
                  have HK : Hid (∀ i' : Nat, i' < k + 1 → ∀ a : Nat, a + (nth cs i').toNat < n2 → nth hs (a + (nth cs i').toNat) ≤ nth hs a + 1) := Lib.hid (fun i' hi' a ha => by
                    rcases Nat.lt_or_ge i' k with h | h
                    · exact HRI.out i' h a ha
                    · obtain rfl : i' = k := by omega
                      rw [HXk.out] at ha
                      have := HP.out
                      omega)
                  subst hcc
                  subst hp2
                  go_wp2
                  go_loop [44] (fun i => i = .int .i64 0) (fun i => 1)
                  case atStart => rfl
                  case round =>
                    subst hrel
                    go_wp2
                    go_round
                    case rel => exact ⟨k + 1, by omega, by go_num, HK⟩
                    case measure => simp [intOf]; omega
                · have hcp : p < c2 := by omega
                  go_wp2
                  go_loop [44] (fun i => ∃ j : Nat, j ≤ n2 - p ∧ i = .int .i64 j ∧ Hid (∀ a : Nat, a < j → nth hs (a + p) ≤ nth hs a + 1)) (fun i => n2 - (intOf i).toNat)
                  case atStart => exact ⟨0, Nat.zero_le _, rfl, Lib.hid (fun b hb => absurd hb (Nat.not_lt_zero b))⟩
                  case round =>
                    obtain ⟨j, hj, rfl, HJ⟩ := hrel
                    by_cases hlt2 : j < n2 - p
                    · obtain ⟨ad3, y, hA, _, cy, hyk, _⟩ := hy3.at_ (k := p + j) (by omega)
                      cases hA
                      obtain ⟨ad4, u, hA, _, cu, huk, _⟩ := hy3.at_ (k := j) (by omega)
                      cases hA
                      have cy' : w3.cell? ((ad.add p).add j) = some (.int .i64 y) := by rw [addr_add]; exact cy
                      have hub := HV.out u (List.mem_of_getElem? huk.out)
                      have hw1 : IntKind.i64.wrap (u + 1) = u + 1 := IntWalk.i64_in _ (by omega)
                      have HYU : Hid (nth hs (j + p) = y ∧ nth hs j = u) := Lib.hid ⟨by rw [Nat.add_comm]; exact nth_some hyk.out, nth_some huk.out⟩
                      by_cases hbig : u + 1 < y
                      · have HE2 : Hid (14 = r) := Lib.hid (by
                          have e := HE.out
                          have hpx : p = ((p : Int)).toNat := by have := HP.out; omega
                          rwa [if_neg (by
                            rw [Bool.not_eq_true, ← Bool.not_eq_true, riseB_iff]
                            intro h'
                            have := h' (p : Int) (List.mem_of_getElem? hxk.out) j (by rw [HL2.out, ← hpx]; omega)
                            rw [← hpx, HYU.out.1, HYU.out.2] at this
                            omega)] at e)
                        clear cy
                        go_wp2
                        go_ret
                        exact ⟨ret_i HE2.out, hb5⟩
                      · have HJ2 : Hid (∀ a : Nat, a < j + 1 → nth hs (a + p) ≤ nth hs a + 1) := Lib.hid (fun a ha => by
                          rcases Nat.lt_or_ge a j with h | h
                          · exact HJ.out a h
                          · obtain rfl : a = j := by omega
                            rw [HYU.out.1, HYU.out.2]
                            omega)
                        clear cy
                        go_wp2
                        go_round
                        case rel => exact ⟨j + 1, by omega, by go_num, HJ2⟩
                        case measure => simp [intOf]; omega
                    · have HK : Hid (∀ i' : Nat, i' < k + 1 → ∀ a : Nat, a + (nth cs i').toNat < n2 → nth hs (a + (nth cs i').toNat) ≤ nth hs a + 1) := Lib.hid (fun i' hi' a ha => by
                        rcases Nat.lt_or_ge i' k with h | h
                        · exact HRI.out i' h a ha
                        · obtain rfl : i' = k := by omega
                          rw [HXk.out] at ha ⊢
                          have hpx : ((p : Int)).toNat = p := by have := HP.out; omega
                          rw [hpx] at ha ⊢
                          exact HJ.out a (by omega))
                      go_wp2
                      go_round
                      case rel => exact ⟨k + 1, by omega, by go_num, HK⟩
                      case measure => simp [intOf]; omega
              · have HK : Hid (∀ i' : Nat, i' < k + 1 → ∀ a : Nat, a + (nth cs i').toNat < n2 → nth hs (a + (nth cs i').toNat) ≤ nth hs a + 1) := Lib.hid (fun i' hi' a ha => by
                  rcases Nat.lt_or_ge i' k with h | h
                  · exact HRI.out i' h a ha
                  · obtain rfl : i' = k := by omega
                    rw [HXk.out] at ha
                    omega)
                by_cases hcc : c2 = n2
                · subst hcc
                  go_wp2
                  go_loop [44] (fun i => i = .int .i64 0) (fun i => 1)
                  case atStart => rfl
                  case round =>
                    subst hrel
                    go_wp2
                    go_round
                    case rel => exact ⟨k + 1, by omega, by go_num, HK⟩
                    case measure => simp [intOf]; omega
                · have hcp : n2 < c2 := by omega
                  go_wp2
                  go_loop [44] (fun i => i = .int .i64 0) (fun i => 1)
                  case atStart => rfl
                  case round =>
                    subst hrel
                    go_wp2
                    go_round
                    case rel => exact ⟨k + 1, by omega, by go_num, HK⟩
                    case measure => simp [intOf]; omega
            · have HE2 : Hid (0 = r) := Lib.hid (by
                have e := HE.out
                rwa [if_pos (by
                  rw [riseB_iff, HL2.out]
                  intro c' hc' i hi
                  obtain ⟨j, hj, he⟩ := List.getElem_of_mem hc'
                  have ej : nth cs j = c' := by rw [nth, List.getElem?_eq_getElem hj]; exact he
                  have := HRI.out j (by rw [HL.out] at hj; omega) i (by rw [ej]; exact hi)
                  rwa [ej] at this)] at e)
              go_wp2
              go_ret
              exact ⟨ret_i HE2.out, hb5⟩
      · have HE : Hid (3 = r) := Lib.hid (by
          have e := HR.out
          unfold checkHeights at e
          rwa [if_pos HQ.out, if_neg HN.out, if_pos HB2.out] at e)
        go_wp2
        go_ret
        exact ⟨ret_i HE.out, hb5⟩
    · have HE : Hid (6 = r) := Lib.hid (by
        have e := HR.out
        unfold checkHeights at e
        have h1 := HB1.out
        simp [outB] at h1
        rwa [if_pos HQ.out, if_pos (by rw [HL2.out]; omega)] at e)
      go_wp2
      go_ret
      exact ⟨ret_i HE.out, hb3⟩
  · have HE : Hid (q = r) := Lib.hid (by
      have e := HR.out
      unfold checkHeights at e
      rwa [if_neg (by rw [HQ.out]; exact h0), HQ.out] at e)
    have hq := ne0 h0
    go_enter Try.func33, Try.ntmps33
    go_wp2_with fail
    refine (fCheckCoins _ _ _ _ _ hx (by omega) hc _ HQ).mono ?_
    rintro e w1 ⟨rfl, hb1⟩
    go_wp2
    go_ret
    exact ⟨ret_i HE.out, hb1⟩
end Go.Proofs.Ytloibnmhgocboaa
