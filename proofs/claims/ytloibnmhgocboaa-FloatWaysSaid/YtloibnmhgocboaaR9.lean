/-
  The reference: Change, Bound, Ways.
-/
import Derived.Test.YtloibnmhgocboaaR3
import Derived.Test.YtloibnmhgocboaaPQ
import Derived.Test.YtloibnmhgocboaaStill
namespace Go.Proofs.Ytloibnmhgocboaa
open Go.RowKit

theorem Ri.drop_ {w : World} {B n k : Nat} {A : Option Addr} {xs : List Int} (h : Ri w B A n xs) (hk : k ≤ n) : Ri w B (A.map fun a => a.add k) (n - k) (xs.drop k) := by
  have hl := h.len
  refine ⟨by rw [ints_length, List.length_drop]; omega, fun h0 => ?_⟩
  obtain ⟨ad, e, hb, hc⟩ := h.2 (by omega)
  subst e
  refine ⟨ad.add k, rfl, by rw [addr_block]; exact hb, fun j hj => ?_⟩
  have hj2 : k + j < (ints xs).length := by rw [ints_length, List.length_drop] at hj; rw [ints_length]; omega
  rw [addr_add, hc (k + j) hj2]
  simp [ints]
theorem Ri.drop_out {w : World} {B n k : Nat} {A A' : Option Addr} {xs : List Int} (h : Ri w B A n xs) (hk : n ≤ k) : Ri w B A' (n - k) (xs.drop k) := by
  have hl := h.len
  rw [List.drop_of_length_le (by omega), show n - k = 0 by omega]
  exact Ri.nil_ _
theorem full_drop {cs : List Int} {k : Nat} : (fullStock cs).drop k = List.replicate (cs.drop k).length 300 := by
  unfold fullStock
  rw [List.drop_replicate, List.length_drop]
theorem full_at {cs : List Int} {k : Nat} (h : k < cs.length) : (fullStock cs)[k]? = some 300 := by
  unfold fullStock
  rw [List.getElem?_replicate, if_pos h]
theorem gmin_rest {cs : List Int} (hc : ∀ c ∈ cs, 1 ≤ c) (k : Nat) {a : Nat} (ha : a ≤ 300) : gmin (cs.drop k) ((fullStock cs).drop k) (a : Int) = few (cs.drop k) a := by
  rw [full_drop]
  exact gmin_few (fun c h => hc c (List.mem_of_mem_drop h)) (by omega)
theorem changeS_rest {cs : List Int} {N : Nat} {L : List Int} {l : Int} (hg : Good cs) (hN : N ≤ 300) (h : changeS cs (N : Int) = (L, 0)) (hl : few cs N = l) (h0 : 0 ≤ l) : ChgAt cs (fullStock cs) L 0 [] (N : Int) l := by
  have h1 := gmin_full hg (a := (N : Int)) (by omega) (by omega)
  rw [Int.toNat_natCast, hl] at h1
  have h2 := chgAt_start (cs := cs) (st := fullStock cs) (a := (N : Int)) (by omega) (by omega) (by omega) (by rw [h1, ← hl]; exact (few_le hg.pos N).2)
  have h3 : L = chg cs (fullStock cs) (N : Int) (gmin cs (fullStock cs) (N : Int)) := by
    unfold changeS at h
    rw [if_pos (amountE_ok.2 ⟨hg, by omega, by omega⟩)] at h
    unfold bestL at h
    rw [if_neg (by omega)] at h
    cases h
    rfl
  rw [h3]
  rwa [h1] at h2 ⊢
theorem change_err {cs : List Int} {a v q r : Int} {L : List Int} (h : fewestS cs a = (v, q)) (hq : q ≠ 0) (h2 : changeS cs a = (L, r)) : L = [] ∧ r = q := by
  unfold fewestS at h
  unfold changeS at h2
  by_cases h0 : amountE cs a = 0
  · rw [if_pos h0] at h h2
    obtain ⟨hg, ha0, ha1⟩ := amountE_ok.1 h0
    unfold bestL at h2
    rw [gmin_full hg ha0 ha1] at h2
    split at h
    · rename_i h3
      rw [if_pos h3] at h2
      cases h; cases h2
      exact ⟨rfl, rfl⟩
    · cases h
      exact absurd rfl hq
  · rw [if_neg h0] at h h2
    cases h; cases h2
    exact ⟨rfl, rfl⟩
theorem change_ok {cs : List Int} {a v r : Int} {L : List Int} (h : fewestS cs a = (v, 0)) (h2 : changeS cs a = (L, r)) : r = 0 ∧ Good cs ∧ ∃ N : Nat, a = N ∧ N ≤ 300 ∧ few cs N = v ∧ 0 ≤ v := by
  unfold fewestS at h
  unfold changeS at h2
  by_cases h0 : amountE cs a = 0
  · rw [if_pos h0] at h h2
    obtain ⟨hg, ha0, ha1⟩ := amountE_ok.1 h0
    unfold bestL at h2
    rw [gmin_full hg ha0 ha1] at h2
    split at h
    · cases h
    · rename_i h3
      rw [if_neg h3] at h2
      cases h; cases h2
      exact ⟨rfl, hg, a.toNat, by omega, by omega, rfl, by omega⟩
  · rw [if_neg h0] at h
    exact absurd (congrArg Prod.snd h) h0
theorem mul_mid {j p : Nat} {x : Int} (hj : j ≤ p) (hx : 1 ≤ x) : 0 ≤ (j : Int) * x ∧ (j : Int) * x ≤ (p : Int) * x := ⟨Int.mul_nonneg (by omega) (by omega), Int.mul_le_mul_of_nonneg_right (by omega) (by omega)⟩

set_option maxRecDepth 100000 in
set_option maxHeartbeats 4000000 in
theorem rChangeT (A : Option Addr) (n c : Nat) (cs : List Int) (a : Int) (w : World) (hx : Ri w w.heap.size A n cs) (hn : n ≤ 1048576) (hc : n ≤ c) (L : List Int) (r : Int) (HR : Hid (changeS cs a = (L, r))) :
    Calls Try.prog 27 #[.slice A n c, .int .i64 a] w (RetLE w L r) := by
  obtain ⟨v, q, HF⟩ : ∃ v q, Hid (fewestS cs a = (v, q)) := ⟨_, _, Lib.hid rfl⟩
  have HL := Lib.hid hx.len
  by_cases h0 : q = 0
  · subst h0
    obtain ⟨hr0, hg, N, ha, hN, hfv, hv0⟩ := change_ok HF.out HR.out
    subst hr0
    subst ha
    have HG := Lib.hid hg
    have HFV := Lib.hid hfv
    have hn5 : n ≤ 5 := by rw [← HL.out]; exact hg.hi
    have HC : Hid (∀ c ∈ cs, 1 ≤ c ∧ c ≤ 50) := Lib.hid hg.all
    have HC1 : Hid (∀ c ∈ cs, 1 ≤ c) := Lib.hid hg.pos
    have HST : Hid (ChgAt cs (fullStock cs) L 0 [] (N : Int) v) := Lib.hid (changeS_rest hg hN HR.out hfv hv0)
    have hv3 : v ≤ 300 := HST.out.left.2
    clear hfv hg
    go_enter Try.func27, Try.ntmps27
    go_wp2_with fail
    refine (rFewestT A n c cs (N : Int) w hx hn v 0 HF).mono ?_
    rintro e w1 ⟨rfl, hb1⟩
    have h_d := Ri.next hx hb1 (Nat.le_refl _) hb1.size
    go_wp2
    go_loopw [6, 8, 9, 10] (fun lv o rv i wr => ∃ (k c' : Nat) (A' : Option Addr) (P : List Int) (rest left : Int), k ≤ n ∧ i = .int .i64 k ∧ o = .slice A' k c' ∧ rv = .int .i64 rest ∧ lv = .int .i64 left ∧ Hid (ChgAt cs (fullStock cs) L k P rest left) ∧ Oi wr w1.heap.size A' k c' P ∧ Below w1.heap.size w1 wr) (fun _ _ _ i _ => n - (intOf i).toNat)
    case atStart => exact ⟨0, 0, none, [], _, _, Nat.zero_le _, rfl, rfl, rfl, rfl, HST, Oi.nil_ _ _, Below.refl _ _⟩
    case round =>
      obtain ⟨k, c', A', P, rest, left, hk, rfl, rfl, rfl, rfl, HCH, ho, hb⟩ := hrel
      obtain ⟨V, hV⟩ : ∃ V : World, V = wr := ⟨_, rfl⟩
      subst hV
      have hsz := hb.size
      have hre := HCH.out.rest
      have hle := HCH.out.left
      by_cases hlt : k < n
      · obtain ⟨ad, x, hA, hadb, hcv, hxk, _⟩ := h_d.at_ hlt
        subst hA
        have hxb := HC.out x (List.mem_of_getElem? hxk.out)
        obtain ⟨hx1, hx50⟩ := hxb
        obtain ⟨p, _, hp2, hp3, hp4, hp5, hp6⟩ := chgAt_next HCH.out hxk.out (full_at (by rw [HL.out]; exact hlt)) hx1 (by omega)
        obtain ⟨k1, HK1⟩ : ∃ k1 : Nat, Hid (k + 1 = k1) := ⟨_, Lib.hid rfl⟩
        have hk1 : (k : Int) + 1 = (k1 : Int) := by have := HK1.out; omega
        have hk1n : k1 ≤ n := by have := HK1.out; omega
        rw [HK1.out] at hp4 hp5 hp6
        have HP4 := Lib.hid hp4
        have HP5 := Lib.hid hp5
        have HP6 := Lib.hid hp6
        have HP2 := Lib.hid hp2
        clear hp2 hp4 hp5 hp6
        have hwk : IntKind.i64.wrap (k1 : Int) = (k1 : Int) := IntWalk.i64_in _ (by omega)
        go_wp2
        go_loopw [11] (fun nv wr => ∃ j : Nat, j ≤ p ∧ nv = .int .i64 j ∧ Below V.heap.size V wr) (fun nv _ => p - (intOf nv).toNat)
        case atStart => exact ⟨0, Nat.zero_le _, rfl, Below.refl _ _⟩
        case round =>
          obtain ⟨j, hj, rfl, hbj⟩ := hrel
          have hsj := hbj.size
          have hb2 : Below w1.heap.size w1 wr := hb.trans (hbj.mono hsz)
          have hs2 := hb2.size
          have h_e := Ri.next h_d hb2 (Nat.le_refl _) hs2
          have hcv2 : wr.cell? (ad.add k) = some (.int .i64 x) := (hb2.cell (by rw [addr_block]; exact hadb)).trans hcv
          have hmm := mul_mid hj hx1
          have hp2 := HP2.out
          obtain ⟨m, hm⟩ : ∃ m : Int, (j : Int) * x = m := ⟨_, rfl⟩
          rw [hm] at hmm
          have hwm : IntKind.i64.wrap m = m := IntWalk.i64_in _ (by omega)
          obtain ⟨u, hu⟩ : ∃ u : Nat, rest - m = (u : Int) := ⟨(rest - m).toNat, by omega⟩
          have hwu : IntKind.i64.wrap (u : Int) = u := IntWalk.i64_in _ (by omega)
          obtain ⟨z, hz⟩ : ∃ z : Int, left - j = z := ⟨_, rfl⟩
          have hwz : IntKind.i64.wrap z = z := IntWalk.i64_in _ (by omega)
          have hu3 : u ≤ 300 := by omega
          have HDR : Hid (∀ c ∈ cs.drop k1, 1 ≤ c ∧ c ≤ 50) := Lib.hid (fun c h => HC.out c (List.mem_of_mem_drop h))
          have h_t := Ri.drop_ (k := k1) (Ri.drew h_e) hk1n
          have HGR : Hid (gmin (cs.drop k1) ((fullStock cs).drop k1) (u : Int) = few (cs.drop k1) u) := Lib.hid (gmin_rest HC1.out k1 hu3)
          clear hp2
          by_cases hjp : j < p
          · have HB : Hid (decide (few (cs.drop k1) u = z) = false) := Lib.hid (decide_eq_false (fun h => HP5.out j hjp (by rw [hm, hu, HGR.out, hz]; exact h)))
            go_wp2
            refine wp_region_still_tail 15 (by kernel_rfl) (by kernel_rfl) ?_
            simp only [List.take_succ_cons, List.take_zero, List.drop_succ_cons, List.drop_zero]
            change wpStill _ _ wr.drew _ _ _
            have dl1 : wr.drew.cell? (ad.add k) = some (.int .i64 x) := hcv2
            iterate 15 still_step
            refine wpStill_nil ?_
            go_wp2_with fail
            · subst h
              refine (rIsBest (some ad) (n - c) 0 (cs.drop c) u z _ (Ri.drop_out (Ri.drew h_e) (by omega)) (by omega) hu3 HDR false HB).mono ?_
              rintro e w3 ⟨rfl, hb3⟩
              go_wp2
              go_roundw
              case rel => exact ⟨j + 1, by omega, by go_num, hbj.trans (((below_drewN (Below.refl _ _) 1).trans hb3).mono hsj)⟩
              case measure => simp [intOf]; omega
            · refine (rIsBest (some (ad.add k1)) (n - k1) (c - k1) (cs.drop k1) u z _ h_t (by omega) hu3 HDR false HB).mono ?_
              rintro e w3 ⟨rfl, hb3⟩
              go_wp2
              go_roundw
              case rel => exact ⟨j + 1, by omega, by go_num, hbj.trans (((below_drewN (Below.refl _ _) 1).trans hb3).mono hsj)⟩
              case measure => simp [intOf]; omega
          · obtain rfl : j = p := by omega
            have HB : Hid (decide (few (cs.drop k1) u = z) = true) := Lib.hid (decide_eq_true (by rw [← HGR.out, ← hu, ← hm, ← hz]; exact HP4.out))
            have HN6 : Hid (ChgAt cs (fullStock cs) L k1 (P ++ [(j : Int)]) (u : Int) z) := Lib.hid (by rw [← hu, ← hm, ← hz]; exact HP6.out)
            go_wp2
            refine wp_region_still_tail 15 (by kernel_rfl) (by kernel_rfl) ?_
            simp only [List.take_succ_cons, List.take_zero, List.drop_succ_cons, List.drop_zero]
            change wpStill _ _ wr.drew _ _ _
            have dl1 : wr.drew.cell? (ad.add k) = some (.int .i64 x) := hcv2
            iterate 15 still_step
            refine wpStill_nil ?_
            go_wp2_with fail
            · subst h
              refine (rIsBest (some ad) (n - c) 0 (cs.drop c) u z _ (Ri.drop_out (Ri.drew h_e) (by omega)) (by omega) hu3 HDR true HB).mono ?_
              rintro e w3 ⟨rfl, hb3⟩
              have hbw : Below V.heap.size V w3 := hbj.trans (((below_drewN (Below.refl _ _) 1).trans hb3).mono hsj)
              have hbx : Below w1.heap.size w1 w3 := hb.trans (hbw.mono hsz)
              have hsx := hbx.size
              have ho3 := ho.below hbw
              have hcv3 : w3.cell? (ad.add k) = some (.int .i64 x) := (hbx.cell (by rw [addr_block]; exact hadb)).trans hcv
              clear hcv2 dl1
              go_wp2_with ((at_builtin; refine push_int rfl (.tmp 47) (.tmp 49) rfl (w1.heap.size) A' k c' (P) rfl (ho3.alloc _) ⟨w3.heap.size, 0, none⟩ 1 _ rfl (cell_new1 _ _ _) (by omega) (by simp only [World.size_alloc]; omega) ?_; intro ga capa w1a hown1a hgrow1a); have hby := ho3.pushed hbx hsx (Nat.le_refl _) hgrow1a; have hcv4 : w1a.cell? (ad.add k) = some (.int .i64 x) := (hby.cell (by rw [addr_block]; exact hadb)).trans hcv)
              go_roundw
              case rel => exact ⟨c, _, _, _, _, _, hk1n, by rw [← hk1], by have := HK1.out; subst this; rfl, rfl, rfl, HN6, by have := HK1.out; subst this; exact hown1a, hby⟩
              case measure => have := HK1.out; simp [intOf]; omega
            · refine (rIsBest (some (ad.add k1)) (n - k1) (c - k1) (cs.drop k1) u z _ h_t (by omega) hu3 HDR true HB).mono ?_
              rintro e w3 ⟨rfl, hb3⟩
              have hbw : Below V.heap.size V w3 := hbj.trans (((below_drewN (Below.refl _ _) 1).trans hb3).mono hsj)
              have hbx : Below w1.heap.size w1 w3 := hb.trans (hbw.mono hsz)
              have hsx := hbx.size
              have ho3 := ho.below hbw
              have hcv3 : w3.cell? (ad.add k) = some (.int .i64 x) := (hbx.cell (by rw [addr_block]; exact hadb)).trans hcv
              clear hcv2 dl1
              go_wp2_with ((at_builtin; refine push_int rfl (.tmp 47) (.tmp 49) rfl (w1.heap.size) A' k c' (P) rfl (ho3.alloc _) ⟨w3.heap.size, 0, none⟩ 1 _ rfl (cell_new1 _ _ _) (by omega) (by simp only [World.size_alloc]; omega) ?_; intro ga capa w1a hown1a hgrow1a); have hby := ho3.pushed hbx hsx (Nat.le_refl _) hgrow1a; have hcv4 : w1a.cell? (ad.add k) = some (.int .i64 x) := (hby.cell (by rw [addr_block]; exact hadb)).trans hcv)
              go_roundw
              case rel => exact ⟨k1, _, _, _, _, _, hk1n, by rw [← hk1], by have := HK1.out; subst this; rfl, rfl, rfl, HN6, by have := HK1.out; subst this; exact hown1a, hby⟩
              case measure => have := HK1.out; simp [intOf]; omega
      · obtain rfl : k = n := by omega
        obtain rfl : L = P := chgAt_end HL.out HCH.out
        go_wp2
        go_ret2
        exact ⟨_, _, _, rfl, ho.base hb1.size, hb1.trans (hb.mono hb1.size)⟩
  · have HE := Lib.hid (change_err HF.out h0 HR.out)
    obtain ⟨rfl, rfl⟩ := HE.out
    have hq := ne0 h0
    go_enter Try.func27, Try.ntmps27
    go_wp2_with fail
    refine (rFewestT A n c cs a w hx hn v r HF).mono ?_
    rintro e w1 ⟨rfl, hb1⟩
    go_wp2
    go_ret2
    exact ⟨none, 0, 0, rfl, Oi.nil_ _ _, hb1⟩
end Go.Proofs.Ytloibnmhgocboaa
