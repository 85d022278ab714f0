/-
  LedgeSorted: the coppers are a row just if, sorted, each drop is at most its number, and then they slide as far in all as the drops fall short of it: for every number of places and all drops, as many as places, told by numbers; no condition.
-/
import Derived.Test.YtkeiajncmhkdmaaWorks
import Derived.Test.YtkeiajncmhkdmaaRow
import Derived.Test.YtkeiajncmhkdmaaLaw2
import Derived.Test.YtkeiajncmhkdmaaFactS
import Derived.Test.YtkeiajncmhkdmaaLib2
namespace Go.Proofs.Ytkeiajncmhkdmaa
open Go.ChangeShapes Go.WideShapes Go.ChangeAt Go.RowKit

def sdr (b : Nat) (ys : List Int) (i : Nat) : Int := if 0 < ys.length then (ys[i % ys.length]?.getD 0) % (b : Int) else (i : Int)
def sds (b : Nat) (ys : List Int) (n : Nat) : List Int := (List.range n).map (sdr b ys)
theorem sds_succ (b : Nat) (ys : List Int) (n : Nat) : sds b ys (n + 1) = sds b ys n ++ [sdr b ys n] := by simp [sds, List.range_succ]
theorem sds_len (b : Nat) (ys : List Int) (n : Nat) : (sds b ys n).length = n := by simp [sds]
theorem sds_in {b : Nat} (hb : 1 ≤ b) (ys : List Int) : ∀ d ∈ sds b ys b, 0 ≤ d ∧ d < (b : Int) := by
  intro d hd
  unfold sds at hd
  rw [List.mem_map] at hd
  obtain ⟨i, hi, rfl⟩ := hd
  have hib := List.mem_range.1 hi
  unfold sdr
  split
  · exact ⟨Int.emod_nonneg _ (by omega), Int.emod_lt_of_pos _ (by omega)⟩
  · exact ⟨by omega, by omega⟩
def SortedTo (m : Nat) (M : List Int) : Prop := ∀ (p q : Nat) (x y : Int), p < q → q < m → M[p]? = some x → M[q]? = some y → x ≤ y
def SortedX (m k : Nat) (M : List Int) : Prop := ∀ (p q : Nat) (x y : Int), p < q → q < m → q ≠ k → M[p]? = some x → M[q]? = some y → x ≤ y
theorem sx_start {i : Nat} {M : List Int} (h : SortedTo i M) : SortedX (i + 1) i M := fun p q x y h1 h2 h3 h4 h5 => h p q x y h1 (by omega) h4 h5
theorem sx_done0 {m : Nat} {M : List Int} (h : SortedX m 0 M) : SortedTo m M := fun p q x y h1 h2 h4 h5 => h p q x y h1 h2 (by omega) h4 h5
theorem sx_done {m j : Nat} {M : List Int} {v a : Int} (h : SortedX m (j + 1) M) (hv : M[j + 1]? = some v) (ha : M[j]? = some a) (hle : a ≤ v) : SortedTo m M := by
  intro p q x y h1 h2 h4 h5
  by_cases hq : q = j + 1
  · subst hq
    rw [hv] at h5
    obtain rfl := Option.some.inj h5
    by_cases hp : p = j
    · subst hp
      rw [ha] at h4
      obtain rfl := Option.some.inj h4
      exact hle
    · exact Int.le_trans (h p j x a (by omega) (by omega) (by omega) h4 ha) hle
  · exact h p q x y h1 h2 hq h4 h5
theorem swap_get {M : List Int} {j : Nat} {v a : Int} (hv : M[j + 1]? = some v) (ha : M[j]? = some a) (p : Nat) : ((M.set (j + 1) a).set j v)[p]? = if p = j then some v else if p = j + 1 then some a else M[p]? := by
  have h1 := (List.getElem?_eq_some_iff.1 hv).1
  rw [List.getElem?_set, List.getElem?_set]
  simp only [List.length_set]
  by_cases e1 : p = j
  · subst e1; simp; omega
  · rw [if_neg (fun h => e1 h.symm), if_neg e1]
    by_cases e2 : p = j + 1
    · subst e2; simp; omega
    · rw [if_neg (fun h => e2 h.symm), if_neg e2]
theorem sx_swap {m j : Nat} {M : List Int} {v a : Int} (h : SortedX m (j + 1) M) (hv : M[j + 1]? = some v) (ha : M[j]? = some a) (hlt : v < a) : SortedX m j ((M.set (j + 1) a).set j v) := by
  intro p q x y h1 h2 h3 h4 h5
  rw [swap_get hv ha] at h4 h5
  rw [if_neg h3] at h5
  by_cases eq1 : q = j + 1
  · rw [if_pos eq1] at h5
    obtain rfl := Option.some.inj h5
    by_cases ep : p = j
    · rw [if_pos ep] at h4
      obtain rfl := Option.some.inj h4
      omega
    · rw [if_neg ep, if_neg (by omega)] at h4
      exact h p j x a (by omega) (by omega) (by omega) h4 ha
  · rw [if_neg eq1] at h5
    by_cases ep : p = j
    · rw [if_pos ep] at h4
      obtain rfl := Option.some.inj h4
      exact h (j + 1) q v y (by omega) h2 eq1 hv h5
    · rw [if_neg ep] at h4
      by_cases ep2 : p = j + 1
      · rw [if_pos ep2] at h4
        obtain rfl := Option.some.inj h4
        exact h j q a y (by omega) h2 eq1 ha h5
      · rw [if_neg ep2] at h4
        exact h p q x y h1 h2 eq1 h4 h5
def RowTo (i : Nat) (M : List Int) : Prop := ∀ (j : Nat) (x : Int), j < i → M[j]? = some x → x ≤ j
def RowB (r : Bool) (i : Nat) (M : List Int) : Prop := r = true ↔ RowTo i M
def farTo (i : Nat) (M : List Int) : Int := (upTo i).sum - (M.take i).sum
theorem farTo_succ {i : Nat} {M : List Int} {x : Int} (h : M[i]? = some x) : farTo (i + 1) M = farTo i M + ((i : Int) - x) := by
  unfold farTo
  rw [upTo_succ, take_snoc h, List.sum_append, List.sum_append, List.sum_singleton, List.sum_singleton]
  omega
theorem farTo_bd {b : Nat} {M : List Int} (hM : ∀ d ∈ M, 0 ≤ d ∧ d < (b : Int)) (hb : b ≤ 8) : ∀ i : Nat, i ≤ b → i ≤ M.length → -(8 * (i : Int)) ≤ farTo i M ∧ farTo i M ≤ 8 * (i : Int) := by
  intro i
  induction i with
  | zero => intro _ _; exact ⟨by simp [farTo, upTo], by simp [farTo, upTo]⟩
  | succ i ih =>
    intro h1 h2
    have h3 := ih (by omega) (by omega)
    have h4 : M[i]? = some M[i] := List.getElem?_eq_getElem (by omega)
    have h5 := hM M[i] (List.getElem_mem _)
    rw [farTo_succ h4]
    omega
set_option maxRecDepth 100000 in
set_option maxHeartbeats 4000000 in
theorem wSorted (x : Int) (hx0 : 0 ≤ x) (hx1 : x ≤ 255) (A1 : Option Addr) (n1 c1 : Nat) (ys1 : List Int) (w : World) (h1 : Ru w w.heap.size A1 n1 ys1) (hn1 : n1 ≤ 9223372036854775807) :
    Calls Try.prog 9 #[.int .u8 x, .slice A1 n1 c1] w (RetB w true) := by
  by_cases hg : 30 < n1
  · go_enter Try.func9, Try.ntmps9
    go_wp2_with (go_at_call 18; refine (aWorks _).mono ?_; rintro e w1 ⟨rfl, hb⟩)
    go_ret
    exact ⟨rfl, hb⟩
  · obtain ⟨b, hbx, hb1, hb8⟩ := placed_ex hx0
    have HB := Lib.hid hbx
    clear hbx
    have HYL := Lib.hid h1.len
    have hb1' : 1 ≤ (b : Int) := by omega
    go_enter Try.func9, Try.ntmps9
    go_wp2_with fail
    refine (aPlaced x hx0 hx1 b HB _).mono ?_
    rintro e w' ⟨rfl, rfl⟩
    go_wp2
    go_loopw [6, 7] (fun o i wr => ∃ (k c2 : Nat) (A2 : Option Addr), k ≤ b ∧ i = .int .i64 k ∧ o = .slice A2 k c2 ∧ Oi wr w.heap.size A2 k c2 (sds b ys1 k) ∧ Below w.heap.size w wr) (fun _ i _ => b - (intOf i).toNat)
    case atStart => exact ⟨0, 0, none, by omega, rfl, rfl, Oi.nil_ _ _, Below.refl _ _⟩
    case round =>
      obtain ⟨k, c2, A2, hk, rfl, rfl, ho, hb⟩ := hrel
      have hsz := hb.size
      by_cases hlt : k < b
      · have hd1 : decide (k < b) = true := decide_eq_true hlt
        by_cases h2 : 0 < n1
        · have hmod : k % n1 < n1 := Nat.mod_lt _ h2
          obtain ⟨ad, y, rfl, hadb, hc0, y0, y1, hyk⟩ := h1.at_ hmod
          have hc : wr.cell? (ad.add (k % n1)) = some (.int .u8 y) := (hb.cell (by rw [addr_block]; exact hadb)).trans hc0
          clear hc0
          have HX : Hid (sds b ys1 (k + 1) = sds b ys1 k ++ [y % (b : Int)]) := Lib.hid (by rw [sds_succ, sdr, HYL.out, if_pos h2, hyk.out]; rfl)
          have hd2 : decide (0 < n1) = true := decide_eq_true h2
          go_wp2_with (at_builtin; refine push_int rfl (.tmp 47) (.tmp 49) rfl (w.heap.size) A2 k c2 (sds b ys1 k) rfl (ho.alloc _) ⟨wr.heap.size, 0, none⟩ 1 _ rfl (cell_new1 _ _ _) (by omega) (by simp only [World.size_alloc]; omega) ?_; intro g cap w1 hown1 hgrow1)
          go_roundw
          case rel => exact ⟨k + 1, _, _, by omega, by go_num, rfl, by rw [HX.out]; exact hown1, ho.pushed hb hsz (Nat.le_refl _) hgrow1⟩
          case measure => simp [intOf]; omega
        · have HX : Hid (sds b ys1 (k + 1) = sds b ys1 k ++ [(k : Int)]) := Lib.hid (by rw [sds_succ, sdr, HYL.out, if_neg h2])
          have hd2 : decide (0 < n1) = false := decide_eq_false h2
          go_wp2_with (at_builtin; refine push_int rfl (.tmp 47) (.tmp 49) rfl (w.heap.size) A2 k c2 (sds b ys1 k) rfl (ho.alloc _) ⟨wr.heap.size, 0, none⟩ 1 _ rfl (cell_new1 _ _ _) (by omega) (by simp only [World.size_alloc]; omega) ?_; intro g cap w1 hown1 hgrow1)
          go_roundw
          case rel => exact ⟨k + 1, _, _, by omega, by go_num, rfl, by rw [HX.out]; exact hown1, ho.pushed hb hsz (Nat.le_refl _) hgrow1⟩
          case measure => simp [intOf]; omega
      · have HK : Hid (k = b) := Lib.hid (by omega)
        have hd1 : decide (k < b) = false := decide_eq_false hlt
        obtain rfl : b = k := HK.out.symm
        obtain ⟨D, HD⟩ : ∃ D, Hid (sds b ys1 b = D) := ⟨_, Lib.hid rfl⟩
        rw [HD.out] at ho
        have HIN : Hid (∀ d ∈ D, 0 ≤ d ∧ d < (b : Int)) := Lib.hid (by rw [← HD.out]; exact sds_in hb1 ys1)
        have HDL : Hid (D.length = b) := Lib.hid (by rw [← HD.out, sds_len])
        have HV : Hid (Valid (b : Int) D) := Lib.hid ⟨by omega, by omega, by rw [HDL.out]; omega, HIN.out⟩
        have HOK : Hid (checkDrops (b : Int) D = 0) := Lib.hid (checkDrops_valid.2 HV.out)
        obtain ⟨w4_, rfl⟩ : ∃ w4_ : World, w4_ = wr := ⟨_, rfl⟩
        have h_d : Ri w4_ w4_.heap.size A2 b D := ho.ri
        clear ho hlt HK
        go_wp2_with (at_builtin; refine push_ints rfl (.tmp 51) (.tmp 52) rfl w4_.heap.size (some ⟨w4_.heap.size, 0, none⟩) 0 0 [] rfl (Oi.lit0 w4_) _ A2 b c2 D rfl (h_d.alloc (Nat.le_refl _) _) (by omega) (by omega) (by simp) ?_; intro AX cX wX ho3 hg3; simp only [Nat.zero_add, List.nil_append] at ho3; have hb3 := (Oi.lit0 w4_).grew ((Below.refl w4_.heap.size w4_).alloc (Nat.le_refl _) _) (by simp) (Nat.le_refl _) hg3; obtain ⟨g, hAX, hgb, hgs, _, _⟩ := ho3.row hb1; subst hAX)
        clear hg3
        go_loopw [10, 11] (fun i _ wr => ∃ (k : Nat) (M : List Int), 1 ≤ k ∧ k ≤ b ∧ i = .int .i64 k ∧ Oi wr w4_.heap.size (some ⟨g, 0, none⟩) b cX M ∧ Below w4_.heap.size w4_ wr ∧ Hid (M.Perm D ∧ SortedTo k M)) (fun i _ _ => b - (intOf i).toNat)
        case atStart => exact ⟨1, D, Nat.le_refl _, hb1, rfl, ho3, hb3, Lib.hid ⟨List.Perm.refl _, fun p q x y h1 h2 _ _ => by omega⟩⟩
        case round =>
          clear ho3 hb3 hgs
          obtain ⟨k, M, hk1, hk2, rfl, ho, hb4, HPS⟩ := hrel
          by_cases hlt : k < b
          · have hd1 : decide (k < b) = true := decide_eq_true hlt
            go_wp2
            go_loopw [11] (fun i wr => ∃ (q : Nat) (M : List Int), q ≤ k ∧ i = .int .i64 q ∧ Oi wr w4_.heap.size (some ⟨g, 0, none⟩) b cX M ∧ Below w4_.heap.size w4_ wr ∧ Hid (M.Perm D ∧ SortedX (k + 1) q M)) (fun i _ => (intOf i).toNat)
            case atStart => exact ⟨k, M, Nat.le_refl _, rfl, ho, hb4, Lib.hid ⟨HPS.out.1, sx_start HPS.out.2⟩⟩
            case round =>
              clear ho hb4 HPS
              obtain ⟨q, M, hq, rfl, ho, hb4, HPX⟩ := hrel
              rcases Nat.eq_zero_or_pos q with h0 | h0
              · subst h0
                have HST := Lib.hid (sx_done0 HPX.out.2)
                go_wp2
                go_quiet (fail)
                go_wp2
                go_roundw
                case rel => exact ⟨k + 1, M, by omega, by omega, by go_num, ho.drewN _, below_drewN hb4 _, Lib.hid ⟨HPX.out.1, HST.out⟩⟩
                case measure => simp [intOf]; omega
              · obtain ⟨j, hj⟩ : ∃ j, q = j + 1 := ⟨q - 1, by omega⟩
                subst hj
                obtain ⟨g', hAg, _, hgs, hcell, hfr⟩ := ho.row hb1
                obtain rfl : g = g' := by injection hAg with h; injection h
                have hML := ho.len
                obtain ⟨v, hvk⟩ : ∃ v, M[j + 1]? = some v := ⟨M[j + 1], List.getElem?_eq_getElem (by omega)⟩
                obtain ⟨a, hak⟩ : ∃ a, M[j]? = some a := ⟨M[j], List.getElem?_eq_getElem (by omega)⟩
                have cv := hcell (j + 1) v hvk
                have ca := hcell j a hak
                have fv := hfr (j + 1)
                have fa := hfr j
                have HVK := Lib.hid hvk
                have HAK := Lib.hid hak
                have hd0 : decide (0 < j + 1) = true := decide_eq_true (by omega)
                have hix : IntKind.i64.wrap (((j + 1 : Nat) : Int) - 1) = (j : Int) := by
                  rw [show ((j + 1 : Nat) : Int) - 1 = (j : Int) by omega]
                  exact IntWalk.i64_in _ (by omega)
                have hix2 : IntKind.i64.wrap ((j : Int) + 1 - 1) = (j : Int) := by
                  rw [show (j : Int) + 1 - 1 = (j : Int) by omega]
                  exact IntWalk.i64_in _ (by omega)
                have hjb : j + 1 < b := by omega
                have hjb2 : j < b := by omega
                clear hcell hfr hML hvk hak hAg
                by_cases hva : v < a
                · have hd2 : decide (v < a) = true := decide_eq_true hva
                  have HSX := Lib.hid (sx_swap HPX.out.2 HVK.out HAK.out hva)
                  have HSP := Lib.hid ((swap_perm_ HVK.out HAK.out).trans HPX.out.1)
                  go_wp2
                  go_quiet (fail)
                  generalize hWQ : World.drewN _ _ = wq
                  have ho5 : Oi wq w4_.heap.size (some ⟨g, 0, none⟩) b cX M := by rw [← hWQ]; exact ho.drewN _
                  have hb5 : Below w4_.heap.size w4_ wq := by rw [← hWQ]; exact below_drewN hb4 _
                  have cv5 : wq.cell? ⟨g, j + 1, none⟩ = some (.int .i64 v) := by rw [← hWQ]; exact cv
                  have ca5 : wq.cell? ⟨g, j, none⟩ = some (.int .i64 a) := by rw [← hWQ]; exact ca
                  have fv5 : wq.frozen? ⟨g, j + 1, none⟩ = false := by rw [← hWQ]; exact fv
                  have fa5 : wq.frozen? ⟨g, j, none⟩ = false := by rw [← hWQ]; exact fa
                  clear hWQ cv ca fv fa ho hb4
                  have ho6 := (ho5.put_ (j + 1) a).put_ j v
                  have hb6 : Below w4_.heap.size w4_ ((wq.setCell ⟨g, j + 1, none⟩ (.int .i64 a)).setCell ⟨g, j, none⟩ (.int .i64 v)) := (hb5.setCell (by exact hgb) _).setCell (by exact hgb) _
                  obtain ⟨v', hv'⟩ := cell_some_set (w := wq) (p := ⟨g, j + 1, none⟩) (x := .int .i64 a) (q := ⟨g, j, none⟩) (v := .int .i64 a) ca5
                  go_wp2
                  go_region
                  all_goals
                    go_wp2
                    go_roundw
                    case rel => exact ⟨j, _, by omega, by go_num, ho6.drew, hb6.drew, Lib.hid ⟨HSP.out, HSX.out⟩⟩
                    case measure => simp [intOf]
                · have hd2 : decide (v < a) = false := decide_eq_false hva
                  have HST := Lib.hid (sx_done HPX.out.2 HVK.out HAK.out (by omega))
                  go_wp2
                  go_quiet (fail)
                  go_wp2
                  go_roundw
                  case rel => exact ⟨k + 1, M, by omega, by omega, by go_num, ho.drewN _, below_drewN hb4 _, Lib.hid ⟨HPX.out.1, HST.out⟩⟩
                  case measure => simp [intOf]; omega
          · have HK : Hid (k = b) := Lib.hid (by omega)
            have hd1 : decide (k < b) = false := decide_eq_false hlt
            obtain rfl : b = k := HK.out.symm
            have HSO : Hid (SortedL M) := Lib.hid (fun p q x y h1 h2 h3 => HPS.out.2 p q x y h1 (by have := (List.getElem?_eq_some_iff.1 h3).1; rw [HPS.out.1.length_eq, HDL.out] at this; exact this) h2 h3)
            have HMI : Hid (∀ d ∈ M, 0 ≤ d ∧ d < (b : Int)) := Lib.hid (fun d hd => HIN.out d (HPS.out.1.mem_iff.1 hd))
            have HML : Hid (M.length = b) := Lib.hid (by rw [HPS.out.1.length_eq, HDL.out])
            obtain ⟨wy_, rfl⟩ : ∃ wy_ : World, wy_ = wr := ⟨_, rfl⟩
            obtain ⟨g', hAg, _, _, hcell, _⟩ := ho.row hb1
            obtain rfl : g = g' := by injection hAg with h; injection h
            have HCELL := Lib.hid hcell
            have hbw : Below w.heap.size w wy_ := hb.trans (hb4.mono hsz)
            have hsw : w.heap.size ≤ wy_.heap.size := hbw.size
            replace h_d := h_d.next hb4 (Nat.le_refl _) hb4.size
            clear hlt HK ho hcell hAg
            go_wp2
            go_loop [12, 13, 14] (fun r f i => ∃ (k : Nat) (rb : Bool), k ≤ b ∧ r = .bool rb ∧ f = .int .i64 (farTo k M) ∧ i = .int .i64 k ∧ Hid (RowB rb k M)) (fun _ _ i => b - (intOf i).toNat)
            case atStart => exact ⟨0, true, Nat.zero_le _, rfl, rfl, rfl, Lib.hid ⟨fun _ j x h => by omega, fun _ => rfl⟩⟩
            case round =>
              obtain ⟨k, rb, hk, rfl, rfl, rfl, HR⟩ := hrel
              by_cases hlt : k < b
              · have hd1 : decide (k < b) = true := decide_eq_true hlt
                obtain ⟨z, hz⟩ : ∃ z, M[k]? = some z := ⟨M[k]'(by rw [HML.out]; exact hlt), List.getElem?_eq_getElem _⟩
                have cz := HCELL.out k z hz
                have hzk := Lib.hid hz
                clear hz
                have hzr := HMI.out z (List.mem_of_getElem? hzk.out)
                obtain ⟨z0, z1⟩ := hzr
                have HFS := Lib.hid (farTo_succ hzk.out)
                have hfb := farTo_bd HMI.out hb8 k hk (by rw [HML.out]; exact hk)
                obtain ⟨f0, HF0⟩ : ∃ f0, Hid (farTo k M = f0) := ⟨_, Lib.hid rfl⟩
                rw [HF0.out] at hfb HFS ⊢
                obtain ⟨hfb1, hfb2⟩ := hfb
                have hw1 : IntKind.i64.wrap ((k : Int) - z) = (k : Int) - z := IntWalk.i64_in _ (by omega)
                have hw2 : IntKind.i64.wrap (f0 + ((k : Int) - z)) = f0 + ((k : Int) - z) := IntWalk.i64_in _ (by omega)
                cases rb
                · have HN : Hid (RowB false (k + 1) M) := Lib.hid ⟨fun h => (by cases h), fun h => HR.out.2 fun j x hj hx => h j x (by omega) hx⟩
                  go_wp2
                  go_round
                  case rel => exact ⟨k + 1, false, by omega, rfl, by rw [HFS.out], by go_num, HN⟩
                  case measure => simp [intOf]; omega
                · by_cases hzle : z ≤ k
                  · have hd2 : decide (z ≤ (k : Int)) = true := decide_eq_true hzle
                    have HN : Hid (RowB true (k + 1) M) := Lib.hid ⟨fun _ j x hj hx => by
                      by_cases e : j = k
                      · subst e
                        rw [hzk.out] at hx
                        obtain rfl := Option.some.inj hx
                        exact hzle
                      · exact HR.out.1 rfl j x (by omega) hx, fun _ => rfl⟩
                    go_wp2
                    go_round
                    case rel => exact ⟨k + 1, true, by omega, rfl, by rw [HFS.out], by go_num, HN⟩
                    case measure => simp [intOf]; omega
                  · have hd2 : decide (z ≤ (k : Int)) = false := decide_eq_false hzle
                    have HN : Hid (RowB false (k + 1) M) := Lib.hid ⟨fun h => (by cases h), fun h => (hzle (h k z (by omega) hzk.out)).elim⟩
                    go_wp2
                    go_round
                    case rel => exact ⟨k + 1, false, by omega, rfl, by rw [HFS.out], by go_num, HN⟩
                    case measure => simp [intOf]; omega
              · have HK : Hid (k = b) := Lib.hid (by omega)
                have hd1 : decide (k < b) = false := decide_eq_false hlt
                obtain rfl : b = k := HK.out.symm
                clear hlt HK
                have B100 := hbw
                have S100 := hsw
                obtain ⟨F, HFE⟩ : ∃ F, Hid (fullOf (b : Int) D = F) := ⟨_, Lib.hid rfl⟩
                obtain ⟨fe, HFF⟩ : ∃ fe, Hid (fellOf (b : Int) D = fe) := ⟨_, Lib.hid rfl⟩
                obtain ⟨L, HLE⟩ : ∃ L, Hid (lieOf (b : Int) D = L) := ⟨_, Lib.hid rfl⟩
                obtain ⟨sl, HSE⟩ : ∃ s, Hid (farOf (b : Int) D = s) := ⟨_, Lib.hid rfl⟩
                obtain ⟨f0, HF0⟩ : ∃ f0, Hid (farTo b M = f0) := ⟨_, Lib.hid rfl⟩
                rw [HF0.out]
                have HF : Hid (fullS (b : Int) D = (F, fe, 0)) := Lib.hid (by unfold fullS; rw [if_pos HOK.out, HFE.out, HFF.out])
                have HL : Hid (lieS (b : Int) D = (L, sl, 0)) := Lib.hid (by unfold lieS; rw [if_pos HOK.out, HLE.out, HSE.out])
                have HRW : Hid (rowS (b : Int) D = rowErrS fe) := Lib.hid (by unfold rowS; rw [if_pos HOK.out, HFF.out])
                have HRB : Hid (rb = true ↔ fe = 0) := Lib.hid (by
                  have h := HR.out
                  unfold RowB at h
                  rw [h, ← HFF.out, ← (perm_ledge HPS.out.1 HMI.out).2.1, sorted_row HML.out HMI.out HSO.out]
                  exact ⟨fun h i x hx => h i x (by have := (List.getElem?_eq_some_iff.1 hx).1; rw [HML.out] at this; exact this) hx, fun h j x _ hx => h j x hx⟩)
                have hf0 : 0 ≤ fe := by rw [← HFF.out]; exact fellOf_nonneg D HIN.out
                have HFN : Hid ((F.length : Int) + fe = (b : Int)) := Lib.hid (by rw [← HFE.out, ← HFF.out]; unfold fellOf; rw [HDL.out]; omega)
                cases rb
                · have hpos : 0 < fe := by
                    have : fe ≠ 0 := fun h => by cases HRB.out.2 h
                    omega
                  have HRW2 : Hid (rowErrS fe = 20) := Lib.hid (by unfold rowErrS; rw [if_pos hpos])
                  rw [HRW2.out] at HRW
                  go_wp2_with fail
                  refine (lCheckRowT (b : Int) A2 b c2 D _ h_d (by omega) 20 HRW).mono ?_
                  rintro e w101_ ⟨rfl, hb101⟩
                  have B101 : Below w.heap.size w w101_ := B100.trans (hb101.mono S100)
                  have S101 : w.heap.size ≤ w101_.heap.size := B101.size
                  replace h_d := Ri.next h_d hb101 (Nat.le_refl _) hb101.size
                  clear B100 S100
                  clear hb101
                  go_wp2_with fail
                  refine (lFullT ((b : Int)) A2 b c2 D _ h_d (by omega) (F) (fe) (0) HF).mono ?_
                  rintro e w102_ ⟨A102, n102, c102, rfl, ho102, hb102⟩
                  have B102 : Below w.heap.size w w102_ := B101.trans (hb102.mono S101)
                  have S102 : w.heap.size ≤ w102_.heap.size := B102.size
                  replace h_d := Ri.next h_d hb102 (Nat.le_refl _) hb102.size
                  clear B101 S101
                  have h_f := ho102.ri
                  have m_f := ho102.most
                  clear ho102
                  clear hb102
                  have q2 : (n102 == b) = false := beq_eq_false_iff_ne.2 (by have := HFN.out; have := h_f.len; omega)
                  clear h_f
                  go_wp2_with fail
                  refine (lLieT ((b : Int)) A2 b c2 D _ h_d (by omega) (L) (sl) (0) HL).mono ?_
                  rintro e w103_ ⟨A103, n103, c103, rfl, ho103, hb103⟩
                  have B103 : Below w.heap.size w w103_ := B102.trans (hb103.mono S102)
                  have S103 : w.heap.size ≤ w103_.heap.size := B103.size
                  replace h_d := Ri.next h_d hb103 (Nat.le_refl _) hb103.size
                  clear B102 S102
                  have h_a := ho103.ri
                  have m_a := ho103.most
                  clear ho103
                  clear hb103
                  clear h_a
                  clear h_d
                  go_wp2_with fail
                  refine (aWorks _).mono ?_
                  rintro e w104_ ⟨rfl, hb104⟩
                  have B104 : Below w.heap.size w w104_ := B103.trans (hb104.mono S103)
                  have S104 : w.heap.size ≤ w104_.heap.size := B104.size
                  clear B103 S103
                  clear hb104
                  go_wp2
                  go_ret
                  exact ⟨rfl, B104⟩
                · have hz : fe = 0 := HRB.out.1 rfl
                  subst hz
                  have HSL : Hid (sl = f0) := Lib.hid (by
                    rw [← HSE.out, far_all HIN.out HDL.out HFF.out, ← HF0.out]
                    unfold farTo
                    rw [List.take_of_length_le (by rw [HML.out]; exact Nat.le_refl _), perm_sum HPS.out.1])
                  obtain rfl := HSL.out
                  go_wp2_with fail
                  refine (lCheckRowT (b : Int) A2 b c2 D _ h_d (by omega) 0 HRW).mono ?_
                  rintro e w101_ ⟨rfl, hb101⟩
                  have B101 : Below w.heap.size w w101_ := B100.trans (hb101.mono S100)
                  have S101 : w.heap.size ≤ w101_.heap.size := B101.size
                  replace h_d := Ri.next h_d hb101 (Nat.le_refl _) hb101.size
                  clear B100 S100
                  clear hb101
                  go_wp2_with fail
                  refine (lFullT ((b : Int)) A2 b c2 D _ h_d (by omega) (F) (0) (0) HF).mono ?_
                  rintro e w102_ ⟨A102, n102, c102, rfl, ho102, hb102⟩
                  have B102 : Below w.heap.size w w102_ := B101.trans (hb102.mono S101)
                  have S102 : w.heap.size ≤ w102_.heap.size := B102.size
                  replace h_d := Ri.next h_d hb102 (Nat.le_refl _) hb102.size
                  clear B101 S101
                  have h_f := ho102.ri
                  have m_f := ho102.most
                  clear ho102
                  clear hb102
                  obtain rfl : b = n102 := by rw [← h_f.len]; have := HFN.out; omega
                  clear h_f
                  go_wp2_with fail
                  refine (lLieT ((b : Int)) A2 b c2 D _ h_d (by omega) (L) (sl) (0) HL).mono ?_
                  rintro e w103_ ⟨A103, n103, c103, rfl, ho103, hb103⟩
                  have B103 : Below w.heap.size w w103_ := B102.trans (hb103.mono S102)
                  have S103 : w.heap.size ≤ w103_.heap.size := B103.size
                  replace h_d := Ri.next h_d hb103 (Nat.le_refl _) hb103.size
                  clear B102 S102
                  have h_a := ho103.ri
                  have m_a := ho103.most
                  clear ho103
                  clear hb103
                  clear h_a
                  clear h_d
                  go_wp2_with fail
                  refine (aWorks _).mono ?_
                  rintro e w104_ ⟨rfl, hb104⟩
                  have B104 : Below w.heap.size w w104_ := B103.trans (hb104.mono S103)
                  have S104 : w.heap.size ≤ w104_.heap.size := B104.size
                  clear B103 S103
                  clear hb104
                  go_wp2
                  go_ret
                  exact ⟨rfl, B104⟩

set_option maxRecDepth 100000 in
theorem LedgeSorted_lifted (os : Os) (started : os.Started) (H : Type) (enc : TypeId × Value → H) :
    ReturnsInHanded {} Try.checked os 9 .any (Rows.ledgeSortedSpec.pre6 enc Try.prog Try.f9 Rows.ledgeSortedRow.domain false) (Rows.ledgeSortedSpec.post enc Try.prog Try.f9 false true false false) := by
  refine returnsInHanded_of_change (C := Try.checked) row_own started (by kernel_rfl) Try.func9
    (ChangeSpec.witness6 (enc := enc) (C := Try.checked) false ⟨#[], #[.int .u8 0, .slice none 0 0], []⟩ 8 (by kernel_rfl) (by kernel_rfl) (by kernel_rfl) (by kernel_rfl)) ?_
  intro W base args ds gs before hval0 hW _ _
  have hval : ∀ (j : Nat) t v, Try.f9.params[j]? = some t → args[j]? = some v → Value.okWide Try.prog W .any base t v := hval0
  have hW' := hW
  obtain ⟨p, q, hA0, hV, rfl, _, _⟩ := hW
  have hA : DataW.TrodAll enc Try.prog W 0 (fun _ => true) true Try.f9.params.toList args.toList ds p := hA0
  rw [Try.params9] at hA hval
  obtain ⟨v0, v1, d0, d1, p0, p1, rfl, rfl, rfl, h0, h1⟩ := trodAll_two hA
  obtain ⟨rfl, rfl⟩ := trodVars_none hV
  clear hA0 hval0
  simp only [List.append_nil] at hW'
  have hlt : ∀ x ∈ (p0 ++ p1), x.block < W.heap.size := fun x hx => by simpa using hW'.lt x hx
  have a0 := fun W' (hb : Below W.heap.size W W') => row_stays (t := 5) (by kernel_rfl) (of_decide_eq_true (by kernel_rfl)) h0 (fun x hx => hlt x (by simp [hx])) hb
  have a1 := fun W' (hb : Below W.heap.size W W') => row_stays (t := 41) (by kernel_rfl) (of_decide_eq_true (by kernel_rfl)) h1 (fun x hx => hlt x (by simp [hx])) hb
  obtain ⟨x0, rfl, _, _, wx0⟩ := open_int (P := Try.prog) (k := .u8) (t := 5) (by kernel_rfl) (hval 0 5 v0 rfl rfl) h0
  obtain ⟨A1, n1, c1, xs1, rfl, hc1, hm1, hx1, hw1⟩ := row_ints (t := 41) (e := 5) (k := .u8) (by kernel_rfl) (by kernel_rfl) (by kernel_rfl) (hval 1 41 v1 rfl rfl) h1 (fun x hx => hlt x (by simp [hx]))
  refine (wSorted x0 (u8_lo wx0) (u8_hi wx0) A1 n1 c1 xs1 W (Ru.of_row hx1 hw1) (by omega)).mono fun e W' ⟨he, hb⟩ => ?_
  subst he
  exact ⟨_, rfl, _, _, _, [], (p0 ++ p1), [], hW', trodAll_mk1 (shut_bool Try.underlying4 true), trodAll_mk2 (a0 _ hb) (a1 _ hb), rfl, hb.frame _, fun h => by cases h⟩
theorem LedgeSorted_holds : Rows.LedgeSortedSaid :=
  OpenClaim.holds_of_wide 9 Try.f9 rfl rfl rfl rfl rfl rfl rfl ⟨rfl, rfl, rfl, rfl, rfl⟩ rfl rfl rfl rfl rfl (by kernel_rfl) Try.func9 (by kernel_rfl)
    (of_decide_eq_true (by kernel_rfl)) (by unfold Func.isWrapper; first | (rw [if_pos (by decide +kernel)]; kernel_rfl) | (rw [if_neg (by decide +kernel)]; exact ⟨rfl, rfl⟩))
    (fun os started H enc _ => LedgeSorted_lifted os started H enc)
#print axioms LedgeSorted_holds
end Go.Proofs.Ytkeiajncmhkdmaa
