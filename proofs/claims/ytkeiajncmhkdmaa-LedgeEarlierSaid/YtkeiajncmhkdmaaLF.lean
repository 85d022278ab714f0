import Derived.Test.YtkeiajncmhkdmaaLE
import Derived.Test.YtkeiajncmhkdmaaPL
import Derived.Test.YtkeiajncmhkdmaaRefA
import Derived.StillTailTactics
namespace Go.Proofs.Ytkeiajncmhkdmaa
open Go.RowKit Go.Shelf

theorem lCheckRow_err (p : Int) (A : Option Addr) (n c : Nat) (ds : List Int) (w : World) (hx : Ri w w.heap.size A n ds) (hn : n ≤ 1099511627776) (r : Int) (HR : Hid (checkDrops p ds = r)) (h0 : (r != 0) = true) :
    Calls Try.prog 32 #[.int .i64 p, .slice A n c] w fun e w' => e = .returned (.int .i64 r) ∧ Below w.heap.size w w' := by
  go_enter Try.func32, Try.ntmps32
  go_wp2_with (go_at_call 49; refine (lOpen_err _ _ _ _ _ _ _ hx hn _ HR h0).mono ?_; rintro e w1 ⟨rfl, hb⟩)
  go_ret
  exact ⟨rfl, hb⟩
theorem lCheckRow_ok (b : Nat) (A : Option Addr) (n c : Nat) (ds : List Int) (w : World) (hx : Ri w w.heap.size A n ds) (hv : Valid (b : Int) ds) (r : Int) (HQ : Hid (rowErr (fellOf (b : Int) ds) = r)) :
    Calls Try.prog 32 #[.int .i64 (b : Int), .slice A n c] w fun e w' => e = .returned (.int .i64 r) ∧ Below w.heap.size w w' := by
  have h3 : n ≤ 12 := by rw [← hx.len]; exact hv.many
  obtain ⟨q, HM⟩ : ∃ q, Hid (decide ((-1 : Int) ∈ lieOf (b : Int) ds) = q) := ⟨_, Lib.hid rfl⟩
  have HE : Hid (r = if q = true then 20 else 0) := Lib.hid (by
    rw [← HQ.out, ← HM.out, rowErr]
    simp only [fell_iff ds hv.all, decide_eq_true_eq])
  cases q
  · go_enter Try.func32, Try.ntmps32
    go_wp2_with fail
    refine (lOpen _ _ _ _ _ _ _ hx hv (fun h => by cases h)).mono ?_
    rintro e w1 ⟨g, A1, c1, rfl, hp, hb⟩
    rw [runW_lie, runW_slid] at hp
    have k2 : w1.cell? ⟨g, 10, none⟩ = some (.slice A1 n c1) := pu_cell hp.2.1 10
    have hr1 := hp.2.2.ri
    go_wp2_with (go_at_call 59; refine (lContains _ _ _ _ _ _ _ hr1 (by omega) _ HM).mono ?_; rintro e w' ⟨rfl, rfl⟩)
    go_ret
    exact ⟨ret_i HE.out.symm, hb⟩
  · go_enter Try.func32, Try.ntmps32
    go_wp2_with fail
    refine (lOpen _ _ _ _ _ _ _ hx hv (fun h => by cases h)).mono ?_
    rintro e w1 ⟨g, A1, c1, rfl, hp, hb⟩
    rw [runW_lie, runW_slid] at hp
    have k2 : w1.cell? ⟨g, 10, none⟩ = some (.slice A1 n c1) := pu_cell hp.2.1 10
    have hr1 := hp.2.2.ri
    go_wp2_with (go_at_call 59; refine (lContains _ _ _ _ _ _ _ hr1 (by omega) _ HM).mono ?_; rintro e w' ⟨rfl, rfl⟩)
    go_ret
    exact ⟨ret_i HE.out.symm, hb⟩

/-- The order of places: which proves more. -/
theorem lBetter (p : Int) (A : Option Addr) (n c B : Nat) (ds : List Int) (x y : Int) (a1 a2 : Addr) (w : World) (hx : Ri w B A n ds) (hn : n ≤ 1099511627776) (hp : -1099511627776 ≤ p ∧ p ≤ 1099511627776) (hx1 : -1099511627776 ≤ x ∧ x ≤ 1099511627776) (hy1 : -1099511627776 ≤ y ∧ y ≤ 1099511627776)
    (c1 : w.cell? a1 = some (.int .i64 p)) (c2 : w.cell? a2 = some (.slice A n c)) :
    Calls Try.prog 57 #[.int .i64 x, .int .i64 y, .pointer (some a1), .pointer (some a2)] w fun e w' => e = .returned (.bool (decide (overOf p ds y < overOf p ds x))) ∧ ∃ k, w' = w.drewN k := by
  go_enter Try.func57, Try.ntmps57
  go_wp2
  refine wp_region_still_tail 9 (by kernel_rfl) (by kernel_rfl) ?_
  simp only [List.take_succ_cons, List.take_zero, List.drop_succ_cons, List.drop_zero]
  change wpStill _ _ w.drew _ _ _
  have d1 : w.drew.cell? a1 = some (.int .i64 p) := c1
  have d2 : w.drew.cell? a2 = some (.slice A n c) := c2
  iterate 3 still_step
  still_call (flip_same (lOver0 p x A n c B ds w.drew hx.drew hn hp hx1))
  iterate 3 still_step
  still_call (flip_same (lOver0 p y A n c B ds w.drew hx.drew hn hp hy1))
  still_step
  refine wpStill_nil ?_
  go_wp2
  go_ret
  exact ⟨rfl, 1, rfl⟩
end Go.Proofs.Ytkeiajncmhkdmaa

namespace Go.Proofs.Ytkeiajncmhkdmaa
open Go.RowKit Go.Shelf

/-- m is the first of the places below b that proves most. -/
def IsBest (p : Int) (ds : List Int) (b m : Nat) : Prop := m < b ∧ (∀ j : Nat, j < b → overOf p ds j ≤ overOf p ds m) ∧ (∀ j : Nat, j < m → overOf p ds j < overOf p ds m)

theorem upTo_get {b k : Nat} (h : k < b) : (upTo b)[k]? = some (k : Int) := by simp [upTo, h]

theorem drewN_add (w : World) (a b : Nat) : (w.drewN a).drewN b = w.drewN (a + b) := by simp [World.drewN, Nat.add_assoc]
theorem lBest (p : Int) (A : Option Addr) (g2 n c b c2 B : Nat) (ds : List Int) (a1 a2 : Addr) (w : World) (hx : Ri w B A n ds) (hn : n ≤ 1099511627776) (hp : -1099511627776 ≤ p ∧ p ≤ 1099511627776) (hb1 : 1 ≤ b) (hb8 : b ≤ 8) (hbc : b ≤ c2)
    (hall : Ri w B (some ⟨g2, 0, none⟩) b (upTo b)) (c1 : w.cell? a1 = some (.int .i64 p)) (cd : w.cell? a2 = some (.slice A n c)) :
    Calls Try.prog 56 #[.slice (some ⟨g2, 0, none⟩) b c2, .func (.func 57) #[] #[.pointer (some a1), .pointer (some a2)]] w fun e w' => ∃ m : Nat, e = .returned (.int .i64 m) ∧ IsBest p ds b m ∧ ∃ k, w' = w.drewN k := by
  obtain ⟨ad0, x0, hA0, _, hc0, hx0, _⟩ := hall.at_ (k := 0) (by omega)
  cases hA0
  have hx0' := hx0.out
  rw [upTo_get (by omega)] at hx0'
  cases hx0'
  clear hx0
  rw [addr_zero] at hc0
  by_cases hc21 : c2 = 1
  · subst hc21
    go_enter Try.func56, Try.ntmps56
    go_wp2
    go_loopw [5, 14] (fun o i wr => ∃ (m k d : Nat), i = .int .i64 k ∧ o = .int .i64 m ∧ k + 1 ≤ b ∧ m ≤ k ∧ wr = w.drewN d ∧ Hid ((∀ j : Nat, j < k + 1 → overOf p ds j ≤ overOf p ds m) ∧ (∀ j : Nat, j < m → overOf p ds j < overOf p ds m))) (fun _ i _ => b - (intOf i).toNat)
    case atStart =>
      refine ⟨0, 0, 0, rfl, rfl, by omega, Nat.le_refl _, rfl, Lib.hid ⟨fun j hj => ?_, fun j hj => by omega⟩⟩
      have : j = 0 := by omega
      subst this
      exact Int.le_refl _
    case round =>
      obtain ⟨m, k, d, rfl, rfl, hk, hm, rfl, HI⟩ := hrel
      by_cases hlt : k + 1 < b
      · exfalso; omega
      · have HK : Hid (k + 1 = b) := Lib.hid (by omega)
        go_wp2
        go_ret
        exact ⟨m, rfl, ⟨by omega, by rw [← HK.out]; exact HI.out.1, HI.out.2⟩, d, rfl⟩
  · skip
    go_enter Try.func56, Try.ntmps56
    go_wp2
    go_loopw [5, 14] (fun o i wr => ∃ (m k d : Nat), i = .int .i64 k ∧ o = .int .i64 m ∧ k + 1 ≤ b ∧ m ≤ k ∧ wr = w.drewN d ∧ Hid ((∀ j : Nat, j < k + 1 → overOf p ds j ≤ overOf p ds m) ∧ (∀ j : Nat, j < m → overOf p ds j < overOf p ds m))) (fun _ i _ => b - (intOf i).toNat)
    case atStart =>
      refine ⟨0, 0, 0, rfl, rfl, by omega, Nat.le_refl _, rfl, Lib.hid ⟨fun j hj => ?_, fun j hj => by omega⟩⟩
      have : j = 0 := by omega
      subst this
      exact Int.le_refl _
    case round =>
      obtain ⟨m, k, d, rfl, rfl, hk, hm, rfl, HI⟩ := hrel
      by_cases hlt : k + 1 < b
      · obtain ⟨ad', x, hA, _, hc, hxk, _⟩ := (hall.drewN d).at_ hlt
        cases hA
        have hxk' := hxk.out
        rw [upTo_get hlt] at hxk'
        cases hxk'
        clear hxk
        have hc' : (w.drewN d).cell? ⟨g2, 1 + k, none⟩ = some (.int .i64 ((k + 1 : Nat) : Int)) := by
          have e : Addr.add ⟨g2, 0, none⟩ (k + 1) = ⟨g2, 1 + k, none⟩ := by simp [Addr.add, Nat.add_comm]
          rw [← e]
          exact hc
        clear hc
        have c1' : (w.drewN d).cell? a1 = some (.int .i64 p) := c1
        have cd' : (w.drewN d).cell? a2 = some (.slice A n c) := cd
        have hkb : (k : Int) + 1 ≤ 8 := by omega
        go_wp2_with fail
        refine (lBetter p A n c B ds ((k + 1 : Nat) : Int) (m : Int) a1 a2 (w.drewN d) (hx.drewN d) hn hp (by omega) (by omega) c1' cd').mono ?_
        rintro e w' ⟨rfl, dd, rfl⟩
        by_cases hbet : overOf p ds m < overOf p ds ((k + 1 : Nat) : Int)
        · have HI2 : Hid ((∀ j : Nat, j < k + 1 + 1 → overOf p ds j ≤ overOf p ds ((k + 1 : Nat) : Int)) ∧ (∀ j : Nat, j < k + 1 → overOf p ds j < overOf p ds ((k + 1 : Nat) : Int))) := Lib.hid ⟨fun j hj => by
              by_cases he : j = k + 1
              · subst he; exact Int.le_refl _
              · have := HI.out.1 j (by omega); omega, fun j hj => by have := HI.out.1 j hj; omega⟩
          rw [decide_eq_true hbet]
          go_wp2
          go_roundw
          case rel => exact ⟨k + 1, k + 1, d + dd, by go_num, rfl, by omega, by omega, rfl, HI2⟩
          case measure => simp [intOf]; omega
        · have HI2 : Hid ((∀ j : Nat, j < k + 1 + 1 → overOf p ds j ≤ overOf p ds m) ∧ (∀ j : Nat, j < m → overOf p ds j < overOf p ds m)) := Lib.hid ⟨fun j hj => by
              by_cases he : j = k + 1
              · subst he; omega
              · have := HI.out.1 j (by omega); omega, HI.out.2⟩
          rw [decide_eq_false hbet]
          go_wp2
          go_roundw
          case rel => exact ⟨m, k + 1, d + dd, by go_num, rfl, by omega, by omega, rfl, HI2⟩
          case measure => simp [intOf]; omega
      · have HK : Hid (k + 1 = b) := Lib.hid (by omega)
        go_wp2
        go_ret
        exact ⟨m, rfl, ⟨by omega, by rw [← HK.out]; exact HI.out.1, HI.out.2⟩, d, rfl⟩
end Go.Proofs.Ytkeiajncmhkdmaa

namespace Go.Proofs.Ytkeiajncmhkdmaa
open Go.RowKit Go.Shelf

theorem firstOver_at {p M : Int} {ds : List Int} {m : Nat} (hm : (m : Int) < p) (he : overOf p ds m = M) : ∀ (f k : Nat), k ≤ m → m - k < f → (∀ j : Nat, k ≤ j → j < m → overOf p ds j ≠ M) → firstOver p ds M f k = ((m : Int), 0) := by
  intro f
  induction f with
  | zero => intro k _ h; omega
  | succ f ih =>
    intro k hk hf hne
    unfold firstOver
    rw [if_pos (by omega)]
    by_cases hkm : k = m
    · subst hkm; rw [if_pos he]
    · rw [if_neg (hne k (Nat.le_refl _) (by omega))]
      exact ih (k + 1) (by omega) (by omega) (fun j h1 h2 => hne j (by omega) h2)
theorem overR_best {b m : Nat} {ds : List Int} (hv : Valid (b : Int) ds) (hm : IsBest (b : Int) ds b m) : overR (b : Int) ds = if overOf (b : Int) ds m < 1 then (0, 20) else ((m : Int), 0) := by
  obtain ⟨h1, h2, h3⟩ := hm
  have h8 := hv.hi
  have hle := over_le (q := m) (by omega) ds hv.all
  unfold overR
  by_cases h0 : 0 < fellOf (b : Int) ds
  · rw [if_pos h0]
    obtain ⟨q, hq, hqe⟩ := over_most ds hv.all h0
    have := h2 q hq
    have he : overOf (b : Int) ds m = fellOf (b : Int) ds := by omega
    rw [if_neg (by omega), firstOver_at (by omega) he 9 0 (by omega) (by omega)]
    intro j _ hj
    have := h3 j hj
    omega
  · rw [if_neg h0, if_pos (by omega)]

theorem lOver_err (p : Int) (A : Option Addr) (n c : Nat) (ds : List Int) (w : World) (hx : Ri w w.heap.size A n ds) (hn : n ≤ 1099511627776) (r : Int) (HR : Hid (checkDrops p ds = r)) (h0 : (r != 0) = true) :
    Calls Try.prog 28 #[.int .i64 p, .slice A n c] w fun e w' => e = .returned (.tuple #[.int .i64 0, .int .i64 r]) ∧ Below w.heap.size w w' := by
  have hb0 : Below w.heap.size w ((w.alloc (.cells #[.int .i64 p] 3)).alloc (.cells #[.slice A n c] 22)) := ((Below.refl _ w).alloc (Nat.le_refl _) _).alloc (by simp) _
  have hx1 := (hx.below hb0).more hb0.size
  have k1 : ((w.alloc (.cells #[.int .i64 p] 3)).alloc (.cells #[.slice A n c] 22)).cell? ⟨w.heap.size, 0, none⟩ = some (.int .i64 p) := cell_old _ (cell_new1 _ _ _)
  have k2 : ((w.alloc (.cells #[.int .i64 p] 3)).alloc (.cells #[.slice A n c] 22)).cell? ⟨w.heap.size + 1, 0, none⟩ = some (.slice A n c) := by
    have h := cell_new1 (w.alloc (.cells #[.int .i64 p] 3)) (.slice A n c) 22
    simp only [World.size_alloc] at h
    exact h
  go_enter Try.func28, Try.ntmps28
  go_wp2_with (go_at_call 23; refine (lCheckDrops _ _ _ _ _ _ hx1 hn _ HR).mono ?_; rintro e w1 ⟨rfl, hb⟩)
  go_ret2
  exact ⟨rfl, hb0.trans (hb.mono (by simp only [World.size_alloc]; omega))⟩

theorem lOver (b : Nat) (A : Option Addr) (n c : Nat) (ds : List Int) (w : World) (hx : Ri w w.heap.size A n ds) (hv : Valid (b : Int) ds) :
    Calls Try.prog 28 #[.int .i64 (b : Int), .slice A n c] w fun e w' => e = .returned (.tuple #[.int .i64 (overR (b : Int) ds).1, .int .i64 (overR (b : Int) ds).2]) ∧ Below w.heap.size w w' := by
  have h3 : n ≤ 12 := by rw [← hx.len]; exact hv.many
  have h8 := hv.hi
  have h1 := hv.lo
  have hb8 : b ≤ 8 := by omega
  have hb1 : 1 ≤ b := by omega
  have HR : Hid (checkDrops (b : Int) ds = 0) := Lib.hid (checkDrops_valid.2 hv)
  have hb0 : Below w.heap.size w ((w.alloc (.cells #[.int .i64 (b : Int)] 3)).alloc (.cells #[.slice A n c] 22)) := ((Below.refl _ w).alloc (Nat.le_refl _) _).alloc (by simp) _
  have hx1 := (hx.below hb0).more hb0.size
  have k1 : ((w.alloc (.cells #[.int .i64 (b : Int)] 3)).alloc (.cells #[.slice A n c] 22)).cell? ⟨w.heap.size, 0, none⟩ = some (.int .i64 (b : Int)) := cell_old _ (cell_new1 _ _ _)
  have k2 : ((w.alloc (.cells #[.int .i64 (b : Int)] 3)).alloc (.cells #[.slice A n c] 22)).cell? ⟨w.heap.size + 1, 0, none⟩ = some (.slice A n c) := by
    have h := cell_new1 (w.alloc (.cells #[.int .i64 (b : Int)] 3)) (.slice A n c) 22
    simp only [World.size_alloc] at h
    exact h
  have hmf : ∀ (fn : Fn) (first cap : Array Value) (w : World), (Instr.makeFunc fn first cap).run Try.prog w = .ok (.func fn first cap) w := fun _ _ _ _ => rfl
  go_enter Try.func28, Try.ntmps28
  go_wp2_with fail
  refine (lCheckDrops _ _ _ _ _ _ hx1 (by omega) _ HR).mono ?_
  rintro e w1 ⟨rfl, hb⟩
  have hbw : Below w.heap.size w w1 := hb0.trans (hb.mono (by simp only [World.size_alloc]; omega))
  have hs1 : w.heap.size + 1 + 1 ≤ w1.heap.size := by have := hb.size; simpa only [World.size_alloc] using this
  have m1 : w1.cell? ⟨w.heap.size, 0, none⟩ = some (.int .i64 (b : Int)) := (hb.cell (by simp only [World.size_alloc]; omega)).trans k1
  have m2 : w1.cell? ⟨w.heap.size + 1, 0, none⟩ = some (.slice A n c) := (hb.cell (by simp only [World.size_alloc]; omega)).trans k2
  go_wp2
  go_loopw [7, 17] (fun o i wr => ∃ (k c2 : Nat) (A2 : Option Addr), k ≤ b ∧ i = .int .i64 k ∧ o = .slice A2 k c2 ∧ Oi wr w1.heap.size A2 k c2 (upTo k) ∧ Below w1.heap.size w1 wr) (fun _ i _ => b - (intOf i).toNat)
  case atStart => exact ⟨0, 0, none, by omega, rfl, rfl, Oi.nil_ _ _, Below.refl _ _⟩
  case round =>
    obtain ⟨k, c2, A2, hk, rfl, rfl, ho, hbk⟩ := hrel
    have hsz := hbk.size
    by_cases hlt : k < b
    · have HX := Lib.hid (upTo_succ k)
      go_wp2_with (at_builtin; refine push_int rfl (.tmp 20) (.tmp 22) rfl (w1.heap.size) A2 k c2 (upTo k) rfl (ho.alloc _) ⟨wr.heap.size, 0, none⟩ 1 _ rfl (cell_new1 _ _ _) (by omega) (by simp only [World.size_alloc]; omega) ?_; intro g cap w1 hown1 hgrow1)
      go_roundw
      case rel => exact ⟨k + 1, _, _, by omega, by go_num, rfl, by rw [HX.out]; exact hown1, ho.pushed hbk hsz (Nat.le_refl _) hgrow1⟩
      case measure => simp [intOf]; omega
    · have HK : Hid (k = b) := Lib.hid (by omega)
      have hkb : k = b := by omega
      subst hkb
      have hmc := ho.cap
      have hA : ∃ g2, A2 = some ⟨g2, 0, none⟩ := by
        obtain ⟨g2, cap, hv2, _, _⟩ := World.ownsRow.form ho (by omega)
        exact ⟨g2, by injection hv2⟩
      obtain ⟨g2, rfl⟩ := hA
      have hxr : Ri wr wr.heap.size A n ds := (((hx.below hbw).more hbw.size).below hbk).more hsz
      have q1 : wr.cell? ⟨w.heap.size, 0, none⟩ = some (.int .i64 (k : Int)) := (hbk.cell (by show w.heap.size < w1.heap.size; omega)).trans m1
      have q2 : wr.cell? ⟨w.heap.size + 1, 0, none⟩ = some (.slice A n c) := (hbk.cell (by show w.heap.size + 1 < w1.heap.size; omega)).trans m2
      have hbest := lBest (k : Int) A g2 n c k c2 wr.heap.size ds ⟨w.heap.size, 0, none⟩ ⟨w.heap.size + 1, 0, none⟩ wr hxr (by omega) (by omega) hb1 hb8 hmc ho.ri q1 q2
      go_wp2_with fail
      refine hbest.mono ?_
      rintro e w2 ⟨m, rfl, HM, d, rfl⟩
      have HRES := Lib.hid (overR_best hv HM)
      have hm8 : m < 8 := by have := HM.1; omega
      have HB3 := Lib.hid (below_drewN (hbw.trans (hbk.mono (by omega))) d)
      have q1' : (wr.drewN d).cell? ⟨w.heap.size, 0, none⟩ = some (.int .i64 (k : Int)) := q1
      have q2' : (wr.drewN d).cell? ⟨w.heap.size + 1, 0, none⟩ = some (.slice A n c) := q2
      have hov := lOver0 (k : Int) (m : Int) A n c wr.heap.size ds (wr.drewN d) (hxr.drewN d) (by omega) (by omega) (by omega)
      clear HM
      obtain ⟨s, HS⟩ : ∃ s, Hid (overOf (k : Int) ds (m : Int) = s) := ⟨_, Lib.hid rfl⟩
      rw [HS.out] at hov
      by_cases hs : s < 1
      · go_wp2_with (go_at_call 54; refine (hov).mono ?_; rintro e w' ⟨rfl, rfl⟩)
        go_ret2
        have := HRES.out
        rw [HS.out, if_pos (by omega)] at this
        rw [this]
        exact ⟨rfl, HB3.out⟩
      · go_wp2_with (go_at_call 54; refine (hov).mono ?_; rintro e w' ⟨rfl, rfl⟩)
        go_ret2
        have := HRES.out
        rw [HS.out, if_neg (by omega)] at this
        rw [this]
        exact ⟨rfl, HB3.out⟩
end Go.Proofs.Ytkeiajncmhkdmaa

namespace Go.Proofs.Ytkeiajncmhkdmaa
open Go.RowKit Go.Shelf

theorem pow_bd {n k : Nat} (hn : n ≤ 9) (hk : k ≤ 12) : n ^ k ≤ 282429536481 := by
  refine Nat.le_trans (Nat.pow_le_pow_left hn k) ?_
  refine Nat.le_trans (Nat.pow_le_pow_right (by omega) hk) ?_
  decide
theorem lPower (n k : Nat) (hn : n ≤ 9) (hk : k ≤ 12) (w : World) (r : Int) (HR : Hid (r = ((n ^ k : Nat) : Int))) :
    Calls Try.prog 60 #[.int .i64 (n : Int), .int .i64 (k : Int)] w fun e w' => e = .returned (.int .i64 r) ∧ w = w' := by
  go_enter Try.func60, Try.ntmps60
  go_wp2
  go_loop [5, 7] (fun o i => ∃ (j E : Nat), j ≤ k ∧ i = .int .i64 j ∧ o = .int .i64 (E : Int) ∧ Hid (E = n ^ j)) (fun _ i => k - (intOf i).toNat)
  case atStart => exact ⟨0, 1, by omega, rfl, rfl, Lib.hid rfl⟩
  case round =>
    obtain ⟨j, E, hj, rfl, rfl, HE⟩ := hrel
    by_cases hlt : j < k
    · have HE2 : Hid (E * n = n ^ (j + 1)) := Lib.hid (by rw [HE.out, Nat.pow_succ])
      have hb : E * n ≤ 282429536481 := by rw [HE2.out]; exact pow_bd hn (by omega)
      have hmul : wrap64 ((E : Int) * (n : Int)) = ((E * n : Nat) : Int) := by
        rw [← Int.natCast_mul]
        exact IntWalk.wrap64_in _ (by omega)
      have HM := Lib.hid hmul
      clear hb hmul
      go_wp2
      go_round
      case rel => exact ⟨j + 1, E * n, by omega, by go_num, congrArg _ HM.out, HE2⟩
      case measure => simp [intOf]; omega
    · have HK : Hid (j = k) := Lib.hid (by omega)
      go_wp2
      go_ret
      exact ⟨ret_i (by rw [HR.out, HE.out, HK.out]), rfl⟩

/-- In how many rows so many coppers lie, by the closed form. -/
def countP (p c : Int) : Int := if c = 0 then 1 else if p < c then 0 else (p + 1 - c) * (((p + 1).toNat ^ (c - 1).toNat : Nat) : Int)
theorem lCount_many (p k : Int) (w : World) (hp : p < 1 ∨ 8 < p) :
    Calls Try.prog 34 #[.int .i64 p, .int .i64 k] w fun e w' => e = .returned (.tuple #[.int .i64 0, .int .i64 6]) ∧ Below w.heap.size w w' := by
  have HB : Hid ([p].any (outB 1 8) = true) := Lib.hid (by simp [outB]; omega)
  have hlit := (Oi.lit1 w p).ri
  go_enter Try.func34, Try.ntmps34
  go_wp2_with (go_at_call 52; refine (lWithin _ _ _ _ _ _ _ hlit (by omega) _ HB).mono ?_; rintro e w1 ⟨rfl, hb, hs⟩; clear hs)
  go_ret2
  exact ⟨rfl, ((Below.refl _ w).alloc (Nat.le_refl _) _).trans (hb.mono (by simp))⟩
theorem lCount_range (b : Nat) (k : Int) (w : World) (hb1 : 1 ≤ b) (hb8 : b ≤ 8) (hk : k < 0 ∨ 12 < k) :
    Calls Try.prog 34 #[.int .i64 (b : Int), .int .i64 k] w fun e w' => e = .returned (.tuple #[.int .i64 0, .int .i64 3]) ∧ Below w.heap.size w w' := by
  have HB : Hid ([(b : Int)].any (outB 1 8) = false) := Lib.hid (by simp [outB]; omega)
  have HC : Hid ([k].any (outB 0 12) = true) := Lib.hid (by simp [outB]; omega)
  have hlit := (Oi.lit1 w (b : Int)).ri
  go_enter Try.func34, Try.ntmps34
  go_wp2_with fail
  refine (lWithin _ _ _ _ _ _ _ hlit (by omega) _ HB).mono ?_
  rintro e w1 ⟨rfl, hb, hs⟩
  have hbw : Below w.heap.size w w1 := ((Below.refl _ w).alloc (Nat.le_refl _) _).trans (hb.mono (by simp))
  clear hs hb
  have hlit2 := (Oi.lit1 w1 k).ri
  go_wp2_with (go_at_call 52; refine (lWithin _ _ _ _ _ _ _ hlit2 (by omega) _ HC).mono ?_; rintro e w2 ⟨rfl, hb, hs⟩; clear hs)
  go_ret2
  exact ⟨rfl, hbw.trans ((((Below.refl _ w1).alloc (Nat.le_refl _) _).trans (hb.mono (by simp))).mono hbw.size)⟩
theorem lCount_ok (b k : Nat) (w : World) (hb1 : 1 ≤ b) (hb8 : b ≤ 8) (hk : k ≤ 12) :
    Calls Try.prog 34 #[.int .i64 (b : Int), .int .i64 (k : Int)] w fun e w' => e = .returned (.tuple #[.int .i64 (countP (b : Int) (k : Int)), .int .i64 0]) ∧ Below w.heap.size w w' := by
  have HB : Hid ([(b : Int)].any (outB 1 8) = false) := Lib.hid (by simp [outB]; omega)
  have HC : Hid ([(k : Int)].any (outB 0 12) = false) := Lib.hid (by simp [outB]; omega)
  have hlit := (Oi.lit1 w (b : Int)).ri
  by_cases h0 : k = 0
  · have HV : Hid (countP (b : Int) (k : Int) = 1) := Lib.hid (by unfold countP; rw [if_pos (by omega)])
    rw [HV.out]
    clear HV
    subst h0
    go_enter Try.func34, Try.ntmps34
    go_wp2_with fail
    refine (lWithin _ _ _ _ _ _ _ hlit (by omega) _ HB).mono ?_
    rintro e w1 ⟨rfl, hb, hs⟩
    have hbw : Below w.heap.size w w1 := ((Below.refl _ w).alloc (Nat.le_refl _) _).trans (hb.mono (by simp))
    clear hs hb
    have hlit2 := (Oi.lit1 w1 ((0 : Nat) : Int)).ri
    go_wp2_with fail
    refine (lWithin _ _ _ _ _ _ _ hlit2 (by omega) _ HC).mono ?_
    rintro e w2 ⟨rfl, hb, hs⟩
    have hbw2 : Below w.heap.size w w2 := hbw.trans ((((Below.refl _ w1).alloc (Nat.le_refl _) _).trans (hb.mono (by simp))).mono hbw.size)
    clear hs hb
    go_wp2
    go_ret2
    exact ⟨rfl, hbw2⟩
  · by_cases hlt : b < k
    · have HV : Hid (countP (b : Int) (k : Int) = 0) := Lib.hid (by unfold countP; rw [if_neg (by omega), if_pos (by omega)])
      rw [HV.out]
      clear HV
      go_enter Try.func34, Try.ntmps34
      go_wp2_with fail
      refine (lWithin _ _ _ _ _ _ _ hlit (by omega) _ HB).mono ?_
      rintro e w1 ⟨rfl, hb, hs⟩
      have hbw : Below w.heap.size w w1 := ((Below.refl _ w).alloc (Nat.le_refl _) _).trans (hb.mono (by simp))
      clear hs hb
      have hlit2 := (Oi.lit1 w1 (k : Int)).ri
      go_wp2_with fail
      refine (lWithin _ _ _ _ _ _ _ hlit2 (by omega) _ HC).mono ?_
      rintro e w2 ⟨rfl, hb, hs⟩
      have hbw2 : Below w.heap.size w w2 := hbw.trans ((((Below.refl _ w1).alloc (Nat.le_refl _) _).trans (hb.mono (by simp))).mono hbw.size)
      clear hs hb
      go_wp2
      go_ret2
      exact ⟨rfl, hbw2⟩
    · obtain ⟨E, HE⟩ : ∃ E : Nat, Hid (E = (b + 1) ^ (k - 1)) := ⟨_, Lib.hid rfl⟩
      have hE : E ≤ 282429536481 := by rw [HE.out]; exact pow_bd (by omega) (by omega)
      have HV : Hid (countP (b : Int) (k : Int) = ((b : Int) + 1 - (k : Int)) * (E : Int)) := Lib.hid (by
        unfold countP
        rw [if_neg (by omega), if_neg (by omega), HE.out, show ((b : Int) + 1).toNat = b + 1 by omega, show ((k : Int) - 1).toNat = k - 1 by omega])
      rw [HV.out]
      clear HV
      have hm0 : 0 ≤ ((b : Int) + 1 - (k : Int)) * (E : Int) := Int.mul_nonneg (by omega) (by omega)
      have hm1 : ((b : Int) + 1 - (k : Int)) * (E : Int) ≤ 9 * 282429536481 := Int.mul_le_mul (by omega) (by omega) (by omega) (by omega)
      have HPW : Hid (∀ w : World, Calls Try.prog 60 #[.int .i64 ((b : Int) + 1), .int .i64 ((k : Int) - 1)] w fun e w' => e = .returned (.int .i64 (E : Int)) ∧ w = w') := Lib.hid (fun w => by
        have h := lPower (b + 1) (k - 1) (by omega) (by omega) w ((E : Nat) : Int) (Lib.hid (by rw [HE.out]))
        rw [show ((b + 1 : Nat) : Int) = (b : Int) + 1 by omega, show ((k - 1 : Nat) : Int) = (k : Int) - 1 by omega] at h
        exact h)
      go_enter Try.func34, Try.ntmps34
      go_wp2_with fail
      refine (lWithin _ _ _ _ _ _ _ hlit (by omega) _ HB).mono ?_
      rintro e w1 ⟨rfl, hb, hs⟩
      have hbw : Below w.heap.size w w1 := ((Below.refl _ w).alloc (Nat.le_refl _) _).trans (hb.mono (by simp))
      clear hs hb
      have hlit2 := (Oi.lit1 w1 (k : Int)).ri
      go_wp2_with fail
      refine (lWithin _ _ _ _ _ _ _ hlit2 (by omega) _ HC).mono ?_
      rintro e w2 ⟨rfl, hb, hs⟩
      have hbw2 : Below w.heap.size w w2 := hbw.trans ((((Below.refl _ w1).alloc (Nat.le_refl _) _).trans (hb.mono (by simp))).mono hbw.size)
      clear hs hb
      have hmul : IntKind.i64.wrap (((b : Int) + 1 - (k : Int)) * (E : Int)) = ((b : Int) + 1 - (k : Int)) * (E : Int) := IntWalk.i64_in _ (by omega)
      go_wp2_with (go_at_call 60; refine (HPW.out _).mono ?_; rintro e w' ⟨rfl, rfl⟩)
      go_ret2
      exact ⟨rfl, hbw2⟩
end Go.Proofs.Ytkeiajncmhkdmaa
