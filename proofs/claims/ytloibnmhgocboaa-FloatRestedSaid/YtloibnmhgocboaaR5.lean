/-
  The reference: CheckHeights, CheckBad, Bad.
-/
import Derived.Test.YtloibnmhgocboaaR4
namespace Go.Proofs.Ytloibnmhgocboaa
open Go.RowKit

/-- No height below a is too great; of the one of a not by the first i kinds. -/
def RiseTo (cs hs : List Int) (a : Nat) : Prop := ∀ b : Nat, b < a → ∀ c ∈ cs, c ≤ b → nth hs b ≤ nth hs (b - c.toNat) + 1
theorem rise_done {cs hs : List Int} (hc : ∀ c ∈ cs, 1 ≤ c) (h : RiseTo cs hs hs.length) : riseB cs hs = true := by
  rw [riseB_iff]
  intro c hcm i hi
  have h1 := hc c hcm
  have := h (i + c.toNat) hi c hcm (by omega)
  rwa [show i + c.toNat - c.toNat = i by omega] at this
theorem rise_not {cs hs : List Int} {b : Nat} (hb : b < hs.length) {c : Int} (hcm : c ∈ cs) (hcb : c ≤ b) (hc : 1 ≤ c) (h : nth hs (b - c.toNat) + 1 < nth hs b) : riseB cs hs = false := by
  rw [← Bool.not_eq_true, riseB_iff]
  intro h'
  have := h' c hcm (b - c.toNat) (by omega)
  rw [show b - c.toNat + c.toNat = b by omega] at this
  omega
set_option maxHeartbeats 4000000 in
theorem rCheckHeights (A : Option Addr) (n c : Nat) (cs : List Int) (D : Option Addr) (n2 c2 : Nat) (hs : List Int) (w : World) (hx : Ri w w.heap.size A n cs) (hy : Ri w w.heap.size D n2 hs) (hn : n ≤ 1048576) (hn2 : n2 ≤ 1048576) (r : Int) (HR : Hid (checkHeights cs hs = r)) :
    Calls Try.prog 34 #[.slice A n c, .slice D n2 c2] w fun e w' => e = .returned (.int .i64 r) ∧ ∃ m, w' = w.drewN m := by
  obtain ⟨q, HQ⟩ : ∃ q, Hid (checkCoins cs = q) := ⟨_, Lib.hid rfl⟩
  have HL := Lib.hid hx.len
  have HL2 := Lib.hid hy.len
  by_cases h0 : q = 0
  · subst h0
    have hg := checkCoins_good.1 HQ.out
    have HC : Hid (∀ c ∈ cs, 1 ≤ c ∧ c ≤ 50) := Lib.hid hg.all
    have hn5 : n ≤ 5 := by rw [← HL.out]; exact hg.hi
    clear hg
    by_cases h1 : n2 < 1 ∨ 301 < n2
    · have HE : Hid (6 = r) := Lib.hid (by
        have e := HR.out
        unfold checkHeights at e
        rwa [if_pos HQ.out, if_pos (by rw [HL2.out]; exact h1)] at e)
      rcases h1 with h1 | h1
      · go_enter Try.func34, Try.ntmps34
        go_wp2_with (go_at_call 23; refine (rCheckCoins _ _ _ _ _ _ hx (by omega) _ HQ).mono ?_; rintro e w1 ⟨rfl, m1, rfl⟩)
        go_ret
        exact ⟨ret_i HE.out, m1, rfl⟩
      · go_enter Try.func34, Try.ntmps34
        go_wp2_with (go_at_call 23; refine (rCheckCoins _ _ _ _ _ _ hx (by omega) _ HQ).mono ?_; rintro e w1 ⟨rfl, m1, rfl⟩)
        go_ret
        exact ⟨ret_i HE.out, m1, rfl⟩
    · have HN : Hid (¬ (hs.length < 1 ∨ 301 < hs.length)) := Lib.hid (by rw [HL2.out]; exact h1)
      have hn1 : 1 ≤ n2 := by omega
      have hn3 : n2 ≤ 301 := by omega
      clear h1
      go_enter Try.func34, Try.ntmps34
      go_wp2_with fail
      refine (rCheckCoins _ _ _ _ _ _ hx (by omega) _ HQ).mono ?_
      rintro e w1 ⟨rfl, m1, rfl⟩
      go_wp2
      go_loop [5] (fun i => ∃ k : Nat, k ≤ n2 ∧ i = .int .i64 k ∧ Hid ((hs.take k).any (outB 0 1000) = false)) (fun i => n2 - (intOf i).toNat)
      case atStart => exact ⟨0, Nat.zero_le _, rfl, Lib.hid rfl⟩
      case round =>
        obtain ⟨k, hk, rfl, hno⟩ := hrel
        by_cases hlt : k < n2
        · obtain ⟨ad, x, rfl, _, hc, hxk, _⟩ := hy.at_ hlt
          have hbad : outB 0 1000 x = true → Hid (3 = r) := fun h => Lib.hid (by
            have e := HR.out
            unfold checkHeights at e
            rwa [if_pos HQ.out, if_neg HN.out, if_pos (List.any_eq_true.2 ⟨x, List.mem_of_getElem? hxk.out, h⟩)] at e)
          by_cases hlo : x < 0
          · have HE := hbad (by simp [outB, hlo])
            clear hbad
            go_wp2
            go_ret
            exact ⟨ret_i HE.out, m1, rfl⟩
          · by_cases hhi : 1000 < x
            · have HE := hbad (by simp [outB, hhi])
              clear hbad
              go_wp2
              go_ret
              exact ⟨ret_i HE.out, m1, rfl⟩
            · have HX : Hid ((hs.take (k + 1)).any (outB 0 1000) = false) := Lib.hid (by rw [take_snoc hxk.out, List.any_append, hno.out]; simp [outB]; omega)
              clear hbad
              go_wp2
              go_round
              case rel => exact ⟨k + 1, by omega, by go_num, HX⟩
              case measure => simp [intOf]; omega
        · have HBB : Hid (hs.any (outB 0 1000) = false) := Lib.hid (by have := hno.out; rw [List.take_of_length_le (by rw [HL2.out]; omega)] at this; exact this)
          have HV : Hid (∀ x ∈ hs, 0 ≤ x ∧ x ≤ 1000) := Lib.hid (any_out.1 HBB.out)
          clear hno
          obtain ⟨ad, h, rfl, hadb, hc0, hh0, _⟩ := hy.at_ (k := 0) (by omega)
          rw [addr_zero] at hc0
          by_cases hz : h = 0
          · have HE : Hid ((if riseB cs hs then 0 else 14) = r) := Lib.hid (by
              have e := HR.out
              unfold checkHeights at e
              rwa [if_pos HQ.out, if_neg HN.out, HBB.out, if_neg (by decide), if_pos (by rw [nth_some hh0.out]; exact hz)] at e)
            have hzb : (h != 0) = false := by simp [hz]
            go_wp2
            go_loopw [6, 7] (fun a _ wr => ∃ k d : Nat, k ≤ n2 ∧ a = .int .i64 k ∧ wr = w.drewN d ∧ Hid (RiseTo cs hs k)) (fun a _ _ => n2 - (intOf a).toNat)
            case atStart => exact ⟨0, m1, Nat.zero_le _, rfl, rfl, Lib.hid (fun b hb => absurd hb (Nat.not_lt_zero b))⟩
            case round =>
              obtain ⟨k, d, hk2, rfl, rfl, HRI⟩ := hrel
              by_cases hlt2 : k < n2
              · obtain ⟨ad', y, hA, _, cy, hyk, _⟩ := hy.at_ hlt2
                cases hA
                have HYk : Hid (nth hs k = y) := Lib.hid (nth_some hyk.out)
                go_wp2
                go_loopw [7] (fun i wr => ∃ j e : Nat, j ≤ n ∧ i = .int .i64 j ∧ wr = w.drewN e ∧ Hid (∀ i' : Nat, i' < j → nth cs i' ≤ k → nth hs k ≤ nth hs (k - (nth cs i').toNat) + 1)) (fun i _ => n - (intOf i).toNat)
                case atStart => exact ⟨0, d, Nat.zero_le _, rfl, rfl, Lib.hid (fun b hb => absurd hb (Nat.not_lt_zero b))⟩
                case round =>
                  obtain ⟨j, e, hj, rfl, rfl, HIN⟩ := hrel
                  by_cases hlt3 : j < n
                  · obtain ⟨ad3, x, rfl, _, cx, hxk, _⟩ := hx.at_ hlt3
                    have hxr := HC.out x (List.mem_of_getElem? hxk.out)
                    obtain ⟨hx1, hx50⟩ := hxr
                    have HXj : Hid (nth cs j = x) := Lib.hid (nth_some hxk.out)
                    by_cases hle : x ≤ k
                    · have hdle : decide (x ≤ (k : Int)) = true := decide_eq_true hle
                      obtain ⟨p, HP⟩ : ∃ p : Nat, Hid ((k : Int) - x = p) := ⟨((k : Int) - x).toNat, Lib.hid (by omega)⟩
                      have hp := HP.out
                      have hpk : p < n2 := by omega
                      obtain ⟨ad4, z, hA, _, cz, hzk, _⟩ := hy.at_ hpk
                      cases hA
                      have hzb2 := HV.out z (List.mem_of_getElem? hzk.out)
                      have HZp : Hid (nth hs (k - x.toNat) = z) := Lib.hid (by rw [show k - x.toNat = p by omega]; exact nth_some hzk.out)
                      have hw1 : IntKind.i64.wrap ((k : Int) - x) = p := by rw [hp]; exact IntWalk.i64_in _ (by omega)
                      have hw2 : IntKind.i64.wrap (z + 1) = z + 1 := IntWalk.i64_in _ (by omega)
                      by_cases hgt : z + 1 < y
                      · have hdgt : decide (z + 1 < y) = true := decide_eq_true hgt
                        have HE2 : Hid (14 = r) := Lib.hid (by
                          have e := HE.out
                          rwa [rise_not (b := k) (c := x) (by rw [HL2.out]; exact hlt2) (List.mem_of_getElem? hxk.out) hle hx1 (by rw [HZp.out, HYk.out]; exact hgt), if_neg (by decide)] at e)
                        go_wp2
                        go_quiet (fail)
                        go_wp2
                        go_ret
                        exact ⟨ret_i HE2.out, e + _, by simp [World.drewN, Nat.add_assoc]; rfl⟩
                      · have hdgt : decide (z + 1 < y) = false := decide_eq_false hgt
                        have HIN2 : Hid (∀ i' : Nat, i' < j + 1 → nth cs i' ≤ k → nth hs k ≤ nth hs (k - (nth cs i').toNat) + 1) := Lib.hid (fun i' hi' hle' => by
                          rcases Nat.lt_or_ge i' j with h | h
                          · exact HIN.out i' h hle'
                          · obtain rfl : i' = j := by omega
                            rw [HXj.out, HZp.out, HYk.out]
                            omega)
                        go_wp2
                        go_quiet (fail)
                        go_wp2
                        go_roundw
                        case rel => exact ⟨j + 1, _, by omega, by go_num, rfl, HIN2⟩
                        case measure => simp [intOf]; omega
                    · have hdle : decide (x ≤ (k : Int)) = false := decide_eq_false hle
                      have HIN2 : Hid (∀ i' : Nat, i' < j + 1 → nth cs i' ≤ k → nth hs k ≤ nth hs (k - (nth cs i').toNat) + 1) := Lib.hid (fun i' hi' hle' => by
                        rcases Nat.lt_or_ge i' j with h | h
                        · exact HIN.out i' h hle'
                        · obtain rfl : i' = j := by omega
                          rw [HXj.out] at hle'
                          exact absurd hle' hle)
                      go_wp2
                      go_quiet (fail)
                      go_wp2
                      go_roundw
                      case rel => exact ⟨j + 1, _, by omega, by go_num, rfl, HIN2⟩
                      case measure => simp [intOf]; omega
                  · have HK : Hid (RiseTo cs hs (k + 1)) := Lib.hid (fun b hb c hcm hcb => by
                      rcases Nat.lt_or_ge b k with h | h
                      · exact HRI.out b h c hcm hcb
                      · obtain rfl : b = k := by omega
                        obtain ⟨i', hi', he⟩ := List.getElem_of_mem hcm
                        have e1 : nth cs i' = c := by rw [nth, List.getElem?_eq_getElem hi']; exact he
                        have := HIN.out i' (by rw [HL.out] at hi'; omega) (by rw [e1]; exact hcb)
                        rwa [e1] at this)
                    go_wp2
                    go_roundw
                    case rel => exact ⟨k + 1, e, by omega, by go_num, rfl, HK⟩
                    case measure => simp [intOf]; omega
              · have HE2 : Hid (0 = r) := Lib.hid (by
                  have e := HE.out
                  rwa [rise_done (fun c h => (HC.out c h).1) (by rw [HL2.out, show n2 = k by omega]; exact HRI.out), if_pos rfl] at e)
                go_wp2
                go_ret
                exact ⟨ret_i HE2.out, d, rfl⟩
          · have HE : Hid (14 = r) := Lib.hid (by
              have e := HR.out
              unfold checkHeights at e
              rwa [if_pos HQ.out, if_neg HN.out, HBB.out, if_neg (by decide), if_neg (by rw [nth_some hh0.out]; exact hz)] at e)
            have hzb : (h != 0) = true := ne0 hz
            go_wp2
            go_ret
            exact ⟨ret_i HE.out, m1, rfl⟩
  · have HE : Hid (q = r) := Lib.hid (by
      have e := HR.out
      unfold checkHeights at e
      rwa [if_neg (by rw [HQ.out]; exact h0), HQ.out] at e)
    have hq := ne0 h0
    go_enter Try.func34, Try.ntmps34
    go_wp2_with fail
    refine (rCheckCoins _ _ _ _ _ _ hx (by omega) _ HQ).mono ?_
    rintro e w1 ⟨rfl, m1, rfl⟩
    go_wp2_with fail
    refine (rCheckCoins _ _ _ _ _ _ (hx.drewN m1) (by omega) _ HQ).mono ?_
    rintro e w1 ⟨rfl, m2, rfl⟩
    go_wp2
    go_ret
    exact ⟨ret_i HE.out, m1 + m2, rfl⟩
end Go.Proofs.Ytloibnmhgocboaa
