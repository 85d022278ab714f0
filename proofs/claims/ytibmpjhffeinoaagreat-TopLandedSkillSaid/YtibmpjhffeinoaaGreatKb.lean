/-
  skill: 'near', 'bad', lists of which one is good, 'wins'.
-/
import Derived.Test.YtibmpjhffeinoaaGreatKa
namespace Go.Proofs.YtibmpjhffeinoaaGreat
open Go.RowKit

/-- An array of distances, in block k. -/
def Fa (W : World) (k : Nat) (fs : List Int) : Prop := Bk W k 133 (ints fs).toArray ∧ fs.length = 14
section
variable {w w' : World} {k B : Nat} {fs : List Int}
theorem Fa.cell (h : Fa w k fs) {i : Nat} (hi : i < 14) : w.cell? ⟨k, i, none⟩ = some (.int .i64 (nth fs i)) := by
  have hl := h.2
  rw [h.1.cell i]
  simp [ints, nth, List.getElem?_eq_getElem (show i < fs.length by omega)]
theorem Fa.below (h : Fa w k fs) (hb : Below B w w') (hk : k < B) : Fa w' k fs := ⟨h.1.below hb hk, h.2⟩
theorem Fa.alloc (h : Fa w k fs) (o : Obj) : Fa (w.alloc o) k fs := ⟨h.1.alloc o, h.2⟩
theorem Fa.lt (h : Fa w k fs) : k < w.heap.size := h.1.lt
end
/-- A position that is good. -/
def gd (fs : List Int) (x : Int) : Bool := decide (0 ≤ nth fs x.toNat)
def Places (xs : List Int) : Prop := ∀ x ∈ xs, 0 ≤ x ∧ x < 14

set_option maxHeartbeats 400000 in
theorem fNear (x : Int) (g : Nat) (fs : List Int) (w : World) (hf : Fa w g fs) (hx : 0 ≤ x ∧ x < 14) :
    Calls Tryz.prog 291 #[.int .i64 x, .pointer (some ⟨g, 0, none⟩)] w fun e w' => e = .returned (.bool (gd fs x)) ∧ w = w' := by
  obtain ⟨k, rfl⟩ : ∃ k : Nat, x = (k : Int) := ⟨x.toNat, by omega⟩
  have hk : k < 14 := by omega
  have hc := hf.cell hk
  have HG : Hid (gd fs (k : Int) = decide (0 ≤ nth fs k)) := Lib.hid rfl
  rw [HG.out]
  obtain ⟨y, HY⟩ : ∃ y, Hid (nth fs k = y) := ⟨_, Lib.hid rfl⟩
  rw [HY.out] at hc ⊢
  by_cases h0 : 0 ≤ y
  · go_enter Tryz.func291, Tryz.ntmps291
    go_wp2
    go_ret
    exact ⟨ret_b (by simp [h0]), rfl⟩
  · go_enter Tryz.func291, Tryz.ntmps291
    go_wp2
    go_ret
    exact ⟨ret_b (by simp [h0]), rfl⟩

set_option maxHeartbeats 400000 in
theorem index_near (g : Nat) (fs : List Int) (A : Option Addr) (n c B : Nat) (xs : List Int) (w : World) (hf : Fa w g fs) (hx : Ri w B A n xs) (hn : n ≤ 1099511627776) (hp : Places xs) (r : Bool) (HR : Hid (xs.any (gd fs) = r)) :
    Calls Tryz.prog 283 #[.slice A n c, .func (.func 291) #[] #[.pointer (some ⟨g, 0, none⟩)]] w fun e w' => (∃ k : Int, e = .returned (.int .i64 k) ∧ decide (0 ≤ k) = r) ∧ w = w' := by
  have HL := Lib.hid hx.len
  have HP := Lib.hid hp
  clear hp
  go_enter Tryz.func283, Tryz.ntmps283
  go_wp2
  go_loop [5, 8] (fun _ i => ∃ k : Nat, k ≤ n ∧ i = .int .i64 k ∧ Hid ((xs.take k).any (gd fs) = false)) (fun _ i => n - (intOf i).toNat)
  case atStart => exact ⟨0, Nat.zero_le _, rfl, Lib.hid rfl⟩
  case round =>
    obtain ⟨k, hk, rfl, hno⟩ := hrel
    by_cases hlt : k < n
    · obtain ⟨ad, x, rfl, _, hc, hxk, _⟩ := hx.at_ hlt
      have HB := Lib.hid (HP.out x (List.mem_of_getElem? hxk.out))
      cases hout : (gd fs) x
      · have HX : Hid ((xs.take (k + 1)).any (gd fs) = false) := Lib.hid (by rw [take_snoc hxk.out, List.any_append, hno.out]; simp [hout])
        have HO := Lib.hid hout
        clear hout
        go_wp2_with (go_at_call 291; refine (fNear _ _ _ _ hf HB.out).mono ?_; rintro e w' ⟨rfl, rfl⟩; rw [HO.out])
        go_round
        case rel => exact ⟨k + 1, by omega, by go_num, HX⟩
        case measure => simp [intOf]; omega
      · have HX : Hid (r = true) := Lib.hid (by rw [← HR.out]; exact List.any_eq_true.2 ⟨x, List.mem_of_getElem? hxk.out, hout⟩)
        have HO := Lib.hid hout
        clear hout
        go_wp2_with (go_at_call 291; refine (fNear _ _ _ _ hf HB.out).mono ?_; rintro e w' ⟨rfl, rfl⟩; rw [HO.out])
        go_ret
        exact ⟨⟨k, rfl, by rw [HX.out]; simp⟩, rfl⟩
    · have HX : Hid (r = false) := Lib.hid (by rw [← HR.out]; have := hno.out; rw [List.take_of_length_le (by rw [HL.out]; omega)] at this; exact this)
      go_wp2
      go_ret
      exact ⟨⟨-1, rfl, by rw [HX.out]; simp⟩, rfl⟩
set_option maxHeartbeats 400000 in
theorem contains_near (g : Nat) (fs : List Int) (A : Option Addr) (n c B : Nat) (xs : List Int) (w : World) (hf : Fa w g fs) (hx : Ri w B A n xs) (hn : n ≤ 1099511627776) (hp : Places xs) (r : Bool) (HR : Hid (xs.any (gd fs) = r)) :
    Calls Tryz.prog 156 #[.slice A n c, .func (.func 291) #[] #[.pointer (some ⟨g, 0, none⟩)]] w fun e w' => e = .returned (.bool r) ∧ w = w' := by
  go_enter Tryz.func156, Tryz.ntmps156
  go_wp2_with (go_at_call 283; refine (index_near g fs A n c B xs w hf hx hn hp _ HR).mono ?_; rintro e w' ⟨⟨k, rfl, hk⟩, rfl⟩; have HK := Lib.hid hk; clear hk)
  go_ret
  exact ⟨ret_b HK.out, rfl⟩

set_option maxHeartbeats 400000 in
theorem fBad (x : Int) (g : Nat) (fs : List Int) (pf : Addr) (w : World) (hf : Fa w g fs) (hp : w.cell? pf = some (.func (.func 291) #[] #[.pointer (some ⟨g, 0, none⟩)])) (hx : 0 ≤ x ∧ x < 14) :
    Calls Tryz.prog 173 #[.int .i64 x, .pointer (some pf)] w fun e w' => e = .returned (.bool (!gd fs x)) ∧ w = w' := by
  have HX := Lib.hid hx
  clear hx
  go_enter Tryz.func173, Tryz.ntmps173
  go_wp2_with (go_at_call 291; refine (fNear _ _ _ _ hf HX.out).mono ?_; rintro e w' ⟨rfl, rfl⟩)
  go_ret
  exact ⟨rfl, rfl⟩

set_option maxHeartbeats 400000 in
theorem index_bad (g : Nat) (fs : List Int) (pf : Addr) (A : Option Addr) (n c B : Nat) (xs : List Int) (w : World) (hf : Fa w g fs) (hpf : w.cell? pf = some (.func (.func 291) #[] #[.pointer (some ⟨g, 0, none⟩)])) (hx : Ri w B A n xs) (hn : n ≤ 1099511627776) (hp : Places xs) (r : Bool) (HR : Hid (xs.any (fun x => !gd fs x) = r)) :
    Calls Tryz.prog 283 #[.slice A n c, .func (.func 173) #[] #[.pointer (some pf)]] w fun e w' => (∃ k : Int, e = .returned (.int .i64 k) ∧ decide (0 ≤ k) = r) ∧ w = w' := by
  have HL := Lib.hid hx.len
  have HP := Lib.hid hp
  clear hp
  go_enter Tryz.func283, Tryz.ntmps283
  go_wp2
  go_loop [5, 8] (fun _ i => ∃ k : Nat, k ≤ n ∧ i = .int .i64 k ∧ Hid ((xs.take k).any (fun x => !gd fs x) = false)) (fun _ i => n - (intOf i).toNat)
  case atStart => exact ⟨0, Nat.zero_le _, rfl, Lib.hid rfl⟩
  case round =>
    obtain ⟨k, hk, rfl, hno⟩ := hrel
    by_cases hlt : k < n
    · obtain ⟨ad, x, rfl, _, hc, hxk, _⟩ := hx.at_ hlt
      have HB := Lib.hid (HP.out x (List.mem_of_getElem? hxk.out))
      cases hout : (fun x => !gd fs x) x
      · have HX : Hid ((xs.take (k + 1)).any (fun x => !gd fs x) = false) := Lib.hid (by rw [take_snoc hxk.out, List.any_append, hno.out]; simp [hout])
        have HO := Lib.hid hout
        clear hout
        go_wp2_with (go_at_call 173; refine (fBad _ _ _ _ _ hf hpf HB.out).mono ?_; rintro e w' ⟨rfl, rfl⟩; rw [HO.out])
        go_round
        case rel => exact ⟨k + 1, by omega, by go_num, HX⟩
        case measure => simp [intOf]; omega
      · have HX : Hid (r = true) := Lib.hid (by rw [← HR.out]; exact List.any_eq_true.2 ⟨x, List.mem_of_getElem? hxk.out, hout⟩)
        have HO := Lib.hid hout
        clear hout
        go_wp2_with (go_at_call 173; refine (fBad _ _ _ _ _ hf hpf HB.out).mono ?_; rintro e w' ⟨rfl, rfl⟩; rw [HO.out])
        go_ret
        exact ⟨⟨k, rfl, by rw [HX.out]; simp⟩, rfl⟩
    · have HX : Hid (r = false) := Lib.hid (by rw [← HR.out]; have := hno.out; rw [List.take_of_length_le (by rw [HL.out]; omega)] at this; exact this)
      go_wp2
      go_ret
      exact ⟨⟨-1, rfl, by rw [HX.out]; simp⟩, rfl⟩
set_option maxHeartbeats 400000 in
theorem contains_bad (g : Nat) (fs : List Int) (pf : Addr) (A : Option Addr) (n c B : Nat) (xs : List Int) (w : World) (hf : Fa w g fs) (hpf : w.cell? pf = some (.func (.func 291) #[] #[.pointer (some ⟨g, 0, none⟩)])) (hx : Ri w B A n xs) (hn : n ≤ 1099511627776) (hp : Places xs) (r : Bool) (HR : Hid (xs.any (fun x => !gd fs x) = r)) :
    Calls Tryz.prog 156 #[.slice A n c, .func (.func 173) #[] #[.pointer (some pf)]] w fun e w' => e = .returned (.bool r) ∧ w = w' := by
  go_enter Tryz.func156, Tryz.ntmps156
  go_wp2_with (go_at_call 283; refine (index_bad g fs pf A n c B xs w hf hpf hx hn hp _ HR).mono ?_; rintro e w' ⟨⟨k, rfl, hk⟩, rfl⟩; have HK := Lib.hid hk; clear hk)
  go_ret
  exact ⟨ret_b HK.out, rfl⟩
end Go.Proofs.YtibmpjhffeinoaaGreat
