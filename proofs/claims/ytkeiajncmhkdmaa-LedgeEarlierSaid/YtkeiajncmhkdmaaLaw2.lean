import Derived.Test.YtkeiajncmhkdmaaLaw1
import Derived.RegionTactic
import Derived.BigRegion
namespace Go.Proofs.Ytkeiajncmhkdmaa
open Go.RowKit

/-- A slice of uint8 that is read. -/
def Ru (w : World) (B : Nat) (A : Option Addr) (n : Nat) (xs : List Int) : Prop := Rd w B 1 A n (xs.map (Value.int .u8)) ∧ ∀ x ∈ xs, 0 ≤ x ∧ x ≤ 255
section
variable {w w' : World} {B B' n : Nat} {A : Option Addr} {xs : List Int}
theorem Ru.len (h : Ru w B A n xs) : xs.length = n := by have := h.1.1; rw [List.length_map, Nat.mul_one] at this; exact this
theorem Ru.at_ (h : Ru w B A n xs) {k : Nat} (hk : k < n) : ∃ ad x, A = some ad ∧ ad.block < B ∧ w.cell? (ad.add k) = some (.int .u8 x) ∧ 0 ≤ x ∧ x ≤ 255 ∧ Hid (xs[k]? = some x) := by
  obtain ⟨ad, e, hb, hc⟩ := h.1.2 (Nat.lt_of_le_of_lt (Nat.zero_le _) hk)
  have hl : k < xs.length := by rw [h.len]; exact hk
  have hl' : k < (xs.map (Value.int .u8)).length := by rw [List.length_map]; exact hl
  have hbd := h.2 xs[k] (List.getElem_mem hl)
  refine ⟨ad, xs[k], e, hb, ?_, hbd.1, hbd.2, Lib.hid (List.getElem?_eq_getElem hl)⟩
  rw [hc k hl']
  simp
theorem Ru.below (h : Ru w B A n xs) (hb : Below B w w') : Ru w' B A n xs := ⟨h.1.below hb, h.2⟩
theorem Ru.next (h : Ru w B A n xs) (hb : Below B' w w') (hle : B ≤ B') (hle2 : B' ≤ w'.heap.size) : Ru w' w'.heap.size A n xs := ⟨h.1.next hb hle hle2, h.2⟩
end
theorem u8_bd {x : Int} (h : (Lit.int .u8 x).wf = true) : 0 ≤ x ∧ x ≤ 255 := by
  simp [Lit.wf] at h
  have h1 : IntKind.u8.min = 0 := by decide
  have h2 : IntKind.u8.max = 255 := by decide
  omega
theorem u8_lo {x : Int} (h : (Lit.int .u8 x).wf = true) : 0 ≤ x := (u8_bd h).1
theorem u8_hi {x : Int} (h : (Lit.int .u8 x).wf = true) : x ≤ 255 := (u8_bd h).2
theorem Ru.of_row {w : World} {B n : Nat} {A : Option Addr} {xs : List Int} (h : Rd w B 1 A n (xs.map (Value.int .u8))) (hw : ∀ x ∈ xs, (Lit.int .u8 x).wf = true) : Ru w B A n xs := ⟨h, fun x hx => by
  have := hw x hx
  simp [Lit.wf] at this
  have h1 : IntKind.u8.min = 0 := by decide
  have h2 : IntKind.u8.max = 255 := by decide
  omega⟩

set_option maxHeartbeats 400000 in
theorem aPlaced (x : Int) (h0 : 0 ≤ x) (h1 : x ≤ 255) (b : Nat) (HB : Hid ((b : Int) = 1 + x % 8)) (w : World) : Calls Try.prog 42 #[.int .u8 x] w fun e w' => e = .returned (.int .i64 (b : Int)) ∧ w = w' := by
  go_enter Try.func42, Try.ntmps42
  go_wp2
  go_ret
  exact ⟨ret_i HB.out.symm, rfl⟩

def drp (b : Int) (xs : List Int) : List Int := (xs.take 12).map (· % b)
theorem drp_len (b : Int) (xs : List Int) : (drp b xs).length = min 12 xs.length := by simp [drp]
theorem drp_range {b : Int} (hb : 0 < b) (xs : List Int) : ∀ d ∈ drp b xs, 0 ≤ d ∧ d < b := by
  intro d hd
  unfold drp at hd
  rw [List.mem_map] at hd
  obtain ⟨x, _, rfl⟩ := hd
  exact ⟨Int.emod_nonneg _ (by omega), Int.emod_lt_of_pos _ hb⟩
set_option maxHeartbeats 400000 in
theorem aDropped (b : Nat) (A : Option Addr) (n c : Nat) (xs : List Int) (w : World) (hx : Ru w w.heap.size A n xs) (hn : n ≤ 9223372036854775807) (hb1 : 1 ≤ b) (hb8 : b ≤ 8) (D : List Int) (HD : Hid (drp (b : Int) xs = D)) :
    Calls Try.prog 43 #[.int .i64 (b : Int), .slice A n c] w (RetL w D) := by
  have HL := Lib.hid hx.len
  go_enter Try.func43, Try.ntmps43
  go_wp2
  go_loopw [5, 6] (fun o i wr => ∃ (k c2 : Nat) (A2 : Option Addr), k ≤ n ∧ k ≤ 12 ∧ i = .int .i64 k ∧ o = .slice A2 k c2 ∧ Oi wr w.heap.size A2 k c2 ((xs.take k).map (· % (b : Int))) ∧ Below w.heap.size w wr) (fun _ i _ => 12 - (intOf i).toNat)
  case atStart => exact ⟨0, 0, none, by omega, by omega, rfl, rfl, Oi.nil_ _ _, Below.refl _ _⟩
  case round =>
    obtain ⟨k, c2, A2, hk, hk12, rfl, rfl, ho, hb⟩ := hrel
    have hsz := hb.size
    by_cases hlt : k < n
    · by_cases hlt2 : k < 12
      · obtain ⟨ad, x, rfl, hadb, hc0, x0, x1, hxk⟩ := hx.at_ hlt
        have hc : wr.cell? (ad.add k) = some (.int .u8 x) := (hb.cell (by rw [addr_block]; exact hadb)).trans hc0
        clear hc0
        have HX : Hid ((xs.take (k + 1)).map (· % (b : Int)) = (xs.take k).map (· % (b : Int)) ++ [x % (b : Int)]) := Lib.hid (by rw [take_snoc hxk.out, List.map_append]; rfl)
        have hd1 : decide (k < n) = true := decide_eq_true hlt
        have hd2 : decide ((k : Int) < 12) = true := decide_eq_true (by omega)
        have hb1' : 1 ≤ (b : Int) := by omega
        go_wp2_with (at_builtin; refine push_int rfl (.tmp 17) (.tmp 25) rfl (w.heap.size) A2 k c2 ((xs.take k).map (· % (b : Int))) rfl (ho.alloc _) ⟨wr.heap.size, 0, none⟩ 1 _ rfl (cell_new1 _ _ _) (by omega) (by simp only [World.size_alloc]; omega) ?_; intro g cap w1 hown1 hgrow1)
        go_roundw
        case rel => exact ⟨k + 1, _, _, by omega, by omega, by go_num, rfl, by rw [HX.out]; exact hown1, ho.pushed hb hsz (Nat.le_refl _) hgrow1⟩
        case measure => simp [intOf]; omega
      · have HE : Hid ((xs.take k).map (· % (b : Int)) = D) := Lib.hid (by rw [← HD.out]; unfold drp; rw [show k = 12 by omega])
        have hd1 : decide (k < n) = true := decide_eq_true hlt
        have hd2 : decide ((k : Int) < 12) = false := decide_eq_false (by omega)
        go_wp2
        go_ret
        exact ⟨A2, k, c2, rfl, by rw [← HE.out]; exact ho, hb⟩
    · have HE : Hid ((xs.take k).map (· % (b : Int)) = D) := Lib.hid (by
        rw [← HD.out]; unfold drp
        rw [List.take_of_length_le (by rw [HL.out]; omega), List.take_of_length_le (by rw [HL.out]; omega)])
      have hd1 : decide (k < n) = false := decide_eq_false hlt
      go_wp2
      go_ret
      exact ⟨A2, k, c2, rfl, by rw [← HE.out]; exact ho, hb⟩

/-- The cells of a row of the call's own. -/
theorem Oi.row {w : World} {base n c : Nat} {A : Option Addr} {xs : List Int} (h : Oi w base A n c xs) (hn : 0 < n) : ∃ g : Nat, A = some ⟨g, 0, none⟩ ∧ base ≤ g ∧ g < w.heap.size ∧ (∀ (j : Nat) (x : Int), xs[j]? = some x → w.cell? ⟨g, j, none⟩ = some (.int .i64 x)) ∧
    (∀ j : Nat, w.frozen? ⟨g, j, none⟩ = false) := by
  obtain ⟨g, cap, hv, h1, h2⟩ := World.ownsRow.form h hn
  have hA : A = some ⟨g, 0, none⟩ := by injection hv
  subst hA
  have hl := h.len
  refine ⟨g, rfl, h1, h2, fun j x hj => ?_, fun j => World.ownsRow.frozenAt h j⟩
  have hjl := (List.getElem?_eq_some_iff.1 hj).1
  rw [World.ownsRow.cellAt h j (by omega)]
  simp [ints, hj]
theorem Oi.put_ {w : World} {base n c g : Nat} {xs : List Int} (h : Oi w base (some ⟨g, 0, none⟩) n c xs) (j : Nat) (x : Int) : Oi (w.setCell ⟨g, j, none⟩ (.int .i64 x)) base (some ⟨g, 0, none⟩) n c (xs.set j x) := by
  have := (World.ownsRow.stored h j (.int .i64 x)).1
  unfold Oi
  rw [show ints (xs.set j x) = (ints xs).set j (.int .i64 x) from by simp [ints, List.map_set]]
  exact this
theorem cell_some_set {w : World} {p q : Addr} {x v : Value} (h : w.cell? q = some v) : ∃ v', (w.setCell p x).cell? q = some v' := by
  by_cases e : p = q
  · subst e; exact ⟨x, World.cell?_setCell_same w p x h⟩
  · exact ⟨v, (World.cell?_setCell_other w p q x e).trans h⟩
theorem swap_perm_ {M : List Int} {i k : Nat} {x y : Int} (hi : M[i]? = some x) (hk : M[k]? = some y) : ((M.set i y).set k x).Perm M := by
  obtain ⟨h1, rfl⟩ := List.getElem?_eq_some_iff.1 hi
  obtain ⟨h2, rfl⟩ := List.getElem?_eq_some_iff.1 hk
  exact List.set_set_perm h1 h2
def RetP (w : World) (xs : List Int) (e : Ending) (w' : World) : Prop := ∃ (A : Option Addr) (n c : Nat) (M : List Int), e = .returned (.slice A n c) ∧ M.Perm xs ∧ Oi w' w.heap.size A n c M ∧ Below w.heap.size w w'
set_option maxHeartbeats 1000000 in
theorem aMixed (A : Option Addr) (n c : Nat) (xs : List Int) (A2 : Option Addr) (n2 c2 : Nat) (ys : List Int) (w : World) (hx : Ri w w.heap.size A n xs) (hy : Ru w w.heap.size A2 n2 ys) (hn : n ≤ 1048576) (hn2 : n2 ≤ 1048576) :
    Calls Try.prog 44 #[.slice A n c, .slice A2 n2 c2] w (RetP w xs) := by
  have HL := Lib.hid hx.len
  go_enter Try.func44, Try.ntmps44
  go_wp2_with (at_builtin; refine push_ints rfl (.tmp 8) (.tmp 9) rfl w.heap.size (some ⟨w.heap.size, 0, none⟩) 0 0 [] rfl (Oi.lit0 w) _ A n c xs rfl (hx.alloc (Nat.le_refl _) _) (by omega) (by omega) (by simp) ?_; intro A3 c3 w3 ho3 hg3; simp only [Nat.zero_add, List.nil_append] at ho3; have hb3 := (Oi.lit0 w).grew ((Below.refl w.heap.size w).alloc (Nat.le_refl _) _) (by simp) (Nat.le_refl _) hg3)
  go_loopw [6, 7] (fun i _ wr => ∃ (k : Nat) (M : List Int), k ≤ n ∧ i = .int .i64 k ∧ Oi wr w.heap.size A3 n c3 M ∧ Below w.heap.size w wr ∧ Hid (M.Perm xs)) (fun i _ _ => n - (intOf i).toNat)
  case atStart => exact ⟨0, xs, by omega, rfl, ho3, hb3, Lib.hid (List.Perm.refl _)⟩
  case round =>
    obtain ⟨k, M, hk, rfl, ho, hb, HP⟩ := hrel
    by_cases hlt : k < n
    · by_cases h2 : 0 < n2
      · have hmod : k % n2 < n2 := Nat.mod_lt _ h2
        obtain ⟨ad, y, rfl, hadb, hcy0, y0, y1, hyk⟩ := hy.at_ hmod
        have hcy : wr.cell? (ad.add (k % n2)) = some (.int .u8 y) := (hb.cell (by rw [addr_block]; exact hadb)).trans hcy0
        have hj0 : 0 ≤ y % ((k : Int) + 1) := Int.emod_nonneg _ (by omega)
        have hj1 : y % ((k : Int) + 1) < (k : Int) + 1 := Int.emod_lt_of_pos _ (by omega)
        obtain ⟨j, hj⟩ : ∃ j : Nat, y % ((k : Int) + 1) = (j : Int) := ⟨(y % ((k : Int) + 1)).toNat, by omega⟩
        have hjn : j < n := by omega
        obtain ⟨g, rfl, hg1, hg2, hcell, hfr⟩ := ho.row (by omega)
        have hML := ho.len
        obtain ⟨x, hxk⟩ : ∃ x, M[k]? = some x := ⟨M[k], List.getElem?_eq_getElem (by omega)⟩
        obtain ⟨z, hzk⟩ : ∃ z, M[j]? = some z := ⟨M[j], List.getElem?_eq_getElem (by omega)⟩
        have cx := hcell k x hxk
        have cz := hcell j z hzk
        have fk := hfr k
        have fj := hfr j
        have HXK := Lib.hid hxk
        have HZK := Lib.hid hzk
        have HSW := Lib.hid (swap_perm_ hxk hzk)
        have ho2 := (ho.put_ k z).put_ j x
        have hb2 : Below w.heap.size w ((wr.setCell ⟨g, k, none⟩ (.int .i64 z)).setCell ⟨g, j, none⟩ (.int .i64 x)) := (hb.setCell (by exact hg1) _).setCell (by exact hg1) _
        obtain ⟨v', hv'⟩ := cell_some_set (w := wr) (p := ⟨g, k, none⟩) (x := .int .i64 z) (q := ⟨g, j, none⟩) (v := .int .i64 z) cz
        clear hcell hfr hML hxk hzk hj0 hj1
        go_wp2
        go_region
        all_goals
          go_wp2
          go_roundw
          case rel => exact ⟨k + 1, _, by omega, by go_num, ho2.drew, hb2.drew, Lib.hid (HSW.out.trans HP.out)⟩
          case measure => simp [intOf]; omega
      · have hd2 : decide (0 < n2) = false := decide_eq_false h2
        have hd1 : decide (k < n) = true := decide_eq_true hlt
        go_wp2
        go_ret
        exact ⟨A3, n, c3, M, rfl, HP.out, ho, hb⟩
    · have hd1 : decide (k < n) = false := decide_eq_false hlt
      go_wp2
      go_ret
      exact ⟨A3, n, c3, M, rfl, HP.out, ho, hb⟩
end Go.Proofs.Ytkeiajncmhkdmaa
