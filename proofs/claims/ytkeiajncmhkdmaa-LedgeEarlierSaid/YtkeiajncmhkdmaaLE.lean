import Derived.Test.YtkeiajncmhkdmaaPL
import Derived.Test.YtkeiajncmhkdmaaL8
import Derived.Deep.QuietTactic
import Derived.ArgAppend
import Derived.BigQuiet
namespace Go.Proofs.Ytkeiajncmhkdmaa
open Go.RowKit Go.Shelf

/-- Dropping a copper on a pusher, flat or round a wheel. -/
theorem lDrop (b g base a : Nat) (wh : Bool) (A : Option Addr) (n c : Nat) (L : List Int) (s : Int) (w : World) (hb8 : b ≤ 8) (ha : a < b) (hn : n ≤ 1048576) (hs : 0 ≤ s ∧ s ≤ 1048576)
    (hfr : wh = true → slid1 (b : Int) L 0 < (b : Int)) (hp : Pu w base g (b : Int) wh A n c L s) :
    Calls Try.prog 65 #[.pointer (some ⟨g, 0, none⟩), .int .i64 (a : Int)] w fun e w' => e = .returned (.tuple #[]) ∧ ∃ (A' : Option Addr) (c' : Nat), Pu w' base g (b : Int) wh A' (n + 1) c' (stepW wh (b : Int) (L, s) (a : Int)).1 (stepW wh (b : Int) (L, s) (a : Int)).2 ∧ Below base w w' := by
  cases wh with
  | false => exact drop_flat b g base a A n c L s w hb8 ha hn hs hp
  | true => exact drop_wheel b g base a A n c L s w hb8 ha hn hs (hfr rfl) hp

theorem lOpen_err (p : Int) (A : Option Addr) (n c : Nat) (ds : List Int) (wh : Bool) (w : World) (hx : Ri w w.heap.size A n ds) (hn : n ≤ 1099511627776) (r : Int) (HR : Hid (checkDrops p ds = r)) (h0 : (r != 0) = true) :
    Calls Try.prog 49 #[.int .i64 p, .slice A n c, .bool wh] w fun e w' => e = .returned (.tuple #[.pointer none, .int .i64 r]) ∧ Below w.heap.size w w' := by
  go_enter Try.func49, Try.ntmps49
  go_wp2_with (go_at_call 23; refine (lCheckDrops _ _ _ _ _ _ hx hn _ HR).mono ?_; rintro e w1 ⟨rfl, hb⟩)
  go_ret2
  exact ⟨rfl, hb⟩
theorem lOpen_many (p : Int) (A : Option Addr) (n c : Nat) (ds : List Int) (w : World) (hx : Ri w w.heap.size A n ds) (hn : n ≤ 1099511627776) (HR : Hid (checkDrops p ds = 0)) (h0 : p < (n : Int)) :
    Calls Try.prog 49 #[.int .i64 p, .slice A n c, .bool true] w fun e w' => e = .returned (.tuple #[.pointer none, .int .i64 10]) ∧ Below w.heap.size w w' := by
  go_enter Try.func49, Try.ntmps49
  go_wp2_with (go_at_call 23; refine (lCheckDrops _ _ _ _ _ _ hx hn _ HR).mono ?_; rintro e w1 ⟨rfl, hb⟩)
  go_ret2
  exact ⟨rfl, hb⟩

theorem lOpen (b : Nat) (A : Option Addr) (n c : Nat) (ds : List Int) (wh : Bool) (w : World) (hx : Ri w w.heap.size A n ds) (hv : Valid (b : Int) ds) (hw : wh = true → n ≤ b) :
    Calls Try.prog 49 #[.int .i64 (b : Int), .slice A n c, .bool wh] w fun e w' => ∃ (g : Nat) (A' : Option Addr) (c' : Nat), e = .returned (.tuple #[.pointer (some ⟨g, 0, none⟩), .int .i64 0]) ∧
      Pu w' w.heap.size g (b : Int) wh A' n c' (runW wh (b : Int) ds).1 (runW wh (b : Int) ds).2 ∧ Below w.heap.size w w' := by
  have HL := Lib.hid hx.len
  have h2 := hv.hi
  have hb8 : b ≤ 8 := by omega
  have hn : n ≤ 12 := by rw [← HL.out]; exact hv.many
  have HV := Lib.hid hv
  have HR : Hid (checkDrops (b : Int) ds = 0) := Lib.hid (checkDrops_valid.2 hv)
  clear hv h2
  have hfr : ∀ k : Nat, k < n → (wh = true → slid1 (b : Int) (runW wh (b : Int) (ds.take k)).1 0 < (b : Int)) := fun k hk hwh => by
    refine slid1_room ?_
    rw [runW_len, List.length_take]
    have := hw hwh
    omega
  have hfar : ∀ k : Nat, 0 ≤ (runW wh (b : Int) (ds.take k)).2 ∧ (runW wh (b : Int) (ds.take k)).2 ≤ 1048576 := fun k => by
    have h := runW_far hb8 wh (ds.take k) (fun d hd => HV.out.all d (List.mem_of_mem_take hd))
    have h2 := HV.out.many
    rw [List.length_take] at h
    omega
  have hda : ∀ (k : Nat) (x : Int), ds[k]? = some x → ∃ a : Nat, x = a ∧ a < b := fun k x hk => by
    have h := HV.out.all x (List.mem_of_getElem? hk)
    exact ⟨x.toNat, by omega, by omega⟩
  have hst : ∀ (k : Nat) (x : Int), ds[k]? = some x → runW wh (b : Int) (ds.take (k + 1)) = stepW wh (b : Int) (runW wh (b : Int) (ds.take k)) x := fun k x hk => by
    rw [List.take_add_one, hk, ← runW_snoc]
    rfl
  have HT : Hid (ds.take n = ds) := Lib.hid (List.take_of_length_le (by rw [HL.out]; exact Nat.le_refl _))
  cases wh
  · clear hw
    go_enter Try.func49, Try.ntmps49
    go_wp2_with fail
    refine (lCheckDrops _ _ _ _ _ _ hx (by omega) _ HR).mono ?_
    rintro e w1 ⟨rfl, hb⟩
    go_wp2_with fail
    refine (lNewPusher _ _ _).mono ?_
    rintro e w2 ⟨rfl, hpu, hb2, hs2⟩
    have hx2 : Ri w2 w.heap.size A n ds := (hx.below hb).below' hb2 hb.size
    have hs1 := hb.size
    have hbb : Below w.heap.size w w2 := hb.trans (hb2.mono hs1)
    have HS2 := Lib.hid hs2
    clear hs2
    go_wp2_with fail
    go_loopw [30] (fun i wr => ∃ (k : Nat) (A' : Option Addr) (c' : Nat), k ≤ n ∧ i = .int .i64 k ∧ Pu wr w.heap.size w1.heap.size (b : Int) false A' k c' (runW false (b : Int) (ds.take k)).1 (runW false (b : Int) (ds.take k)).2 ∧ Below w.heap.size w2 wr ∧ Hid (w2.heap.size ≤ wr.heap.size)) (fun i _ => n - (intOf i).toNat)
    case atStart => exact ⟨0, none, 0, by omega, rfl, ⟨hs1, hpu.2.1, hpu.2.2.base hs1⟩, Below.refl _ _, Lib.hid (Nat.le_refl _)⟩
    case round =>
      obtain ⟨k, A', c', hk, rfl, hp, hbk, HSR⟩ := hrel
      by_cases hlt : k < n
      · obtain ⟨ad, x, hA, hbl, hc, hx1, _⟩ := (hx2.below hbk).at_ hlt
        obtain ⟨a, hxa, hab⟩ := hda k x hx1.out
        subst hxa
        have HST := Lib.hid (hst k _ hx1.out)
        have hf := hfar k
        have HFK := Lib.hid (hfr k hlt)
        subst hA
        go_wp2_with fail
        refine (lDrop b w1.heap.size w.heap.size a false A' k c' (runW false (b : Int) (ds.take k)).1 (runW false (b : Int) (ds.take k)).2 wr hb8 hab (by omega) hf (fun h => by cases h) hp).mono ?_
        rintro e w3 ⟨rfl, A3, c3, hp3, hb3⟩
        rw [show ((runW false (b : Int) (ds.take k)).1, (runW false (b : Int) (ds.take k)).2) = runW false (b : Int) (ds.take k) from rfl, ← HST.out] at hp3
        go_wp2
        go_roundw
        case rel => exact ⟨k + 1, A3, c3, by omega, by go_num, hp3, hbk.trans hb3, Lib.hid (Nat.le_trans HSR.out hb3.size)⟩
        case measure => simp [intOf]; omega
      · have HK : Hid (k = n) := Lib.hid (by omega)
        go_wp2
        go_ret2
        rw [HK.out, HT.out] at hp
        exact ⟨w1.heap.size, A', c', rfl, hp, hbb.trans hbk⟩
  · have hnb : ¬ b < n := by have := hw rfl; omega
    clear hw
    go_enter Try.func49, Try.ntmps49
    go_wp2_with fail
    refine (lCheckDrops _ _ _ _ _ _ hx (by omega) _ HR).mono ?_
    rintro e w1 ⟨rfl, hb⟩
    go_wp2_with fail
    refine (lNewPusher _ _ _).mono ?_
    rintro e w2 ⟨rfl, hpu, hb2, hs2⟩
    have hx2 : Ri w2 w.heap.size A n ds := (hx.below hb).below' hb2 hb.size
    have hs1 := hb.size
    have hbb : Below w.heap.size w w2 := hb.trans (hb2.mono hs1)
    have HS2 := Lib.hid hs2
    clear hs2
    go_wp2_with fail
    go_loopw [30] (fun i wr => ∃ (k : Nat) (A' : Option Addr) (c' : Nat), k ≤ n ∧ i = .int .i64 k ∧ Pu wr w.heap.size w1.heap.size (b : Int) true A' k c' (runW true (b : Int) (ds.take k)).1 (runW true (b : Int) (ds.take k)).2 ∧ Below w.heap.size w2 wr ∧ Hid (w2.heap.size ≤ wr.heap.size)) (fun i _ => n - (intOf i).toNat)
    case atStart => exact ⟨0, none, 0, by omega, rfl, ⟨hs1, hpu.2.1, hpu.2.2.base hs1⟩, Below.refl _ _, Lib.hid (Nat.le_refl _)⟩
    case round =>
      obtain ⟨k, A', c', hk, rfl, hp, hbk, HSR⟩ := hrel
      by_cases hlt : k < n
      · obtain ⟨ad, x, hA, hbl, hc, hx1, _⟩ := (hx2.below hbk).at_ hlt
        obtain ⟨a, hxa, hab⟩ := hda k x hx1.out
        subst hxa
        have HST := Lib.hid (hst k _ hx1.out)
        have hf := hfar k
        have HFK := Lib.hid (hfr k hlt)
        subst hA
        go_wp2_with fail
        refine (lDrop b w1.heap.size w.heap.size a true A' k c' (runW true (b : Int) (ds.take k)).1 (runW true (b : Int) (ds.take k)).2 wr hb8 hab (by omega) hf (fun _ => HFK.out trivial) hp).mono ?_
        rintro e w3 ⟨rfl, A3, c3, hp3, hb3⟩
        rw [show ((runW true (b : Int) (ds.take k)).1, (runW true (b : Int) (ds.take k)).2) = runW true (b : Int) (ds.take k) from rfl, ← HST.out] at hp3
        go_wp2
        go_roundw
        case rel => exact ⟨k + 1, A3, c3, by omega, by go_num, hp3, hbk.trans hb3, Lib.hid (Nat.le_trans HSR.out hb3.size)⟩
        case measure => simp [intOf]; omega
      · have HK : Hid (k = n) := Lib.hid (by omega)
        go_wp2
        go_ret2
        rw [HK.out, HT.out] at hp
        exact ⟨w1.heap.size, A', c', rfl, hp, hbb.trans hbk⟩
end Go.Proofs.Ytkeiajncmhkdmaa

namespace Go.Proofs.Ytkeiajncmhkdmaa
open Go.RowKit Go.Shelf

theorem runW_lie (b : Int) (ds : List Int) : (runW false b ds).1 = lieOf b ds := by rw [runW_flat]; rfl
theorem runW_slid (b : Int) (ds : List Int) : (runW false b ds).2 = farOf b ds := by rw [runW_flat]; rfl

theorem lLie_err (p : Int) (A : Option Addr) (n c : Nat) (ds : List Int) (w : World) (hx : Ri w w.heap.size A n ds) (hn : n ≤ 1099511627776) (r : Int) (HR : Hid (checkDrops p ds = r)) (h0 : (r != 0) = true) :
    Calls Try.prog 19 #[.int .i64 p, .slice A n c] w fun e w' => e = .returned (.tuple #[.slice none 0 0, .int .i64 0, .int .i64 r]) ∧ Below w.heap.size w w' := by
  go_enter Try.func19, Try.ntmps19
  go_wp2_with (go_at_call 49; refine (lOpen_err _ _ _ _ _ _ _ hx hn _ HR h0).mono ?_; rintro e w1 ⟨rfl, hb⟩)
  go_ret3
  exact ⟨rfl, hb⟩
theorem lLie (b : Nat) (A : Option Addr) (n c : Nat) (ds : List Int) (w : World) (hx : Ri w w.heap.size A n ds) (hv : Valid (b : Int) ds) :
    Calls Try.prog 19 #[.int .i64 (b : Int), .slice A n c] w fun e w' => ∃ (A' : Option Addr) (c' : Nat), e = .returned (.tuple #[.slice A' n c', .int .i64 (farOf (b : Int) ds), .int .i64 0]) ∧
      Oi w' w.heap.size A' n c' (lieOf (b : Int) ds) ∧ Below w.heap.size w w' := by
  go_enter Try.func19, Try.ntmps19
  go_wp2_with (go_at_call 49; refine (lOpen _ _ _ _ _ _ _ hx hv (fun h => by cases h)).mono ?_; rintro e w1 ⟨g, A1, c1, rfl, hp, hb⟩)
  rw [runW_lie, runW_slid] at hp
  have k2 : w1.cell? ⟨g, 10, none⟩ = some (.slice A1 n c1) := pu_cell hp.2.1 10
  have k3 : w1.cell? ⟨g, 11, none⟩ = some (.int .i64 (farOf (b : Int) ds)) := pu_cell hp.2.1 11
  go_quiet (fail)
  go_wp2
  go_ret3
  exact ⟨A1, c1, rfl, hp.2.2.drewN _, below_drewN hb _⟩

/-- 'append' of one number to an own list that is cut to its length: a new row. -/
theorem push_full {w : World} {ops : Array Oper} {rest : List Oper} {o : Oper} {a : Act} {Q : Exit → Act → World → Prop} (hgd : o.guard = none) (s x : Operand)
    (ho : o.op = .call { callee := .builtin .append, args := #[s, x], argTypes := #[22, 22] })
    (base : Nat) (A : Option Addr) (n c : Nat) (xs : List Int) (hs : a.eval s = .slice A n n) (hown : Oi w base A n c xs)
    (ad : Addr) (c' : Nat) (z : Int) (hx : a.eval x = .slice (some ad) 1 c') (hz : w.cell? ad = some (.int .i64 z)) (hlen : n < 1099511627776)
    (h : ∀ g cap w', Oi w' w.heap.size (some ⟨g, 0, none⟩) (n + 1) cap (xs ++ [z]) → w.grownBy w' none → wpList Try.prog ops Q rest (a.put o.dst (.slice (some ⟨g, 0, none⟩) (n + 1) cap)) w') : wpList Try.prog ops Q (o :: rest) a w := by
  obtain ⟨i0, hi, hz0, hz1, hz2⟩ := info_parts info_int
  have hri := hown.ri
  refine wpList_append_grows w hgd s x _ ho _ i0 _ 1 8 under_ints hi hz0 hz1 hz2 rfl (by decide) A n n (ints xs) hs ?_ (by rw [ints_length, hown.len]; omega) ?_ ad 1 c' [.int .i64 z] hx rfl ?_ (by simp [Value.oneCell']) (by omega) (by unfold maxLen; omega) (by omega) ?_
  · intro hA
    subst hA
    rcases hown.2 with ⟨_, h'⟩ | ⟨g', cap', cur, h', _⟩
    · have h0 : n = 0 := by simp_all
      exact ⟨h0, h0⟩
    · cases h'
  · intro b hb j u hj
    subst hb
    have hjn : j < n := by
      have := (List.getElem?_eq_some_iff.1 hj).1
      rw [ints_length, hown.len] at this
      exact this
    obtain ⟨ad', y, hA, _, hc, hy, _⟩ := hri.at_ hjn
    cases hA
    rw [ints, List.getElem?_map, hy.out] at hj
    cases hj
    exact hc
  · intro j u hj
    match j, hj with
    | 0, hj => simp at hj; subst hj; exact hz
  · intro v' w' hown' hgrow
    obtain ⟨g, cap, hv, _, _⟩ := hown'.form (by omega)
    subst hv
    refine h g cap w' ?_ hgrow
    unfold Oi
    rw [ints_append]
    exact hown'
end Go.Proofs.Ytkeiajncmhkdmaa

namespace Go.Proofs.Ytkeiajncmhkdmaa
open Go.RowKit Go.Shelf

theorem Oi.cap {w : World} {base n c : Nat} {A : Option Addr} {xs : List Int} (h : Oi w base A n c xs) : n ≤ c := by
  rcases h.2 with ⟨h', h2⟩ | ⟨g', cap', cur, h', _, _, h4, _⟩
  · cases h'
    simp_all
  · cases h'
    exact h4
theorem lFull_err (p : Int) (A : Option Addr) (n c : Nat) (ds : List Int) (w : World) (hx : Ri w w.heap.size A n ds) (hn : n ≤ 1099511627776) (r : Int) (HR : Hid (checkDrops p ds = r)) (h0 : (r != 0) = true) :
    Calls Try.prog 21 #[.int .i64 p, .slice A n c] w fun e w' => e = .returned (.tuple #[.slice none 0 0, .int .i64 0, .int .i64 r]) ∧ Below w.heap.size w w' := by
  go_enter Try.func21, Try.ntmps21
  go_wp2_with (go_at_call 49; refine (lOpen_err _ _ _ _ _ _ _ hx hn _ HR h0).mono ?_; rintro e w1 ⟨rfl, hb⟩)
  go_ret3
  exact ⟨rfl, hb⟩
theorem lFull (b : Nat) (A : Option Addr) (n c : Nat) (ds : List Int) (w : World) (hx : Ri w w.heap.size A n ds) (hv : Valid (b : Int) ds) :
    Calls Try.prog 21 #[.int .i64 (b : Int), .slice A n c] w fun e w' => ∃ (A' : Option Addr) (n' c' : Nat), e = .returned (.tuple #[.slice A' n' c', .int .i64 (fellOf (b : Int) ds), .int .i64 0]) ∧
      Oi w' w.heap.size A' n' c' (fullOf (b : Int) ds) ∧ Below w.heap.size w w' := by
  have HL := Lib.hid hx.len
  have h2 := hv.hi
  have hb8 : b ≤ 8 := by omega
  have h3 : n ≤ 12 := by rw [← HL.out]; exact hv.many
  go_enter Try.func21, Try.ntmps21
  go_wp2_with (go_at_call 49; refine (lOpen _ _ _ _ _ _ _ hx hv (fun h => by cases h)).mono ?_; rintro e w1 ⟨g, A1, c1, rfl, hp, hb⟩)
  rw [runW_lie, runW_slid] at hp
  obtain ⟨L, HLE⟩ : ∃ L, Hid (L = lieOf (b : Int) ds) := ⟨_, Lib.hid rfl⟩
  rw [← HLE.out] at hp
  have hpu := Lib.hid hp.2.1
  have hgl : g < w1.heap.size := (Array.getElem?_eq_some_iff.1 hp.2.1).1
  have hs1 := hb.size
  clear hp
  go_loopw [9, 21] (fun o i wr => ∃ (k m c2 : Nat) (A2 : Option Addr), k ≤ b ∧ i = .int .i64 k ∧ o = .slice A2 m c2 ∧ m ≤ k ∧
      Oi wr w1.heap.size A2 m c2 (fullIn L k) ∧ Below w1.heap.size w1 wr) (fun _ i _ => b - (intOf i).toNat)
  case atStart => exact ⟨0, 0, 0, none, by omega, rfl, rfl, Nat.le_refl _, Oi.nil_ _ _, Below.refl _ _⟩
  case round =>
    obtain ⟨k, m, c2, A2, hk, rfl, rfl, hmk, ho, hbk⟩ := hrel
    have hsz := hbk.size
    have hmc := ho.cap
    by_cases hlt : k < b
    · have hc1 := pu_taken ((hbk.block g hgl).trans hpu.out) (k := k) (by omega)
      have hk8 : (k : Int) < 8 := by omega
      by_cases hm : (k : Int) ∈ L
      · have HX := Lib.hid (fullIn_yes hm)
        rw [tkI_yes hm] at hc1
        clear hm
        go_wp2_with (at_builtin; refine push_full rfl (.tmp 36) (.tmp 38) rfl w1.heap.size A2 m c2 (fullIn L k) rfl (ho.alloc _) ⟨wr.heap.size, 0, none⟩ 1 _ rfl (cell_new1 _ _ _) (by omega) ?_; intro g3 cap w3 hown1 hgrow1)
        go_roundw
        case rel =>
          have hown2 := hown1.base (base' := w1.heap.size) (by simp only [World.size_alloc]; omega)
          exact ⟨k + 1, m + 1, _, _, by omega, by go_num, rfl, by omega, by rw [HX.out]; exact hown2, (hbk.alloc hsz _).grown hgrow1 (by simp only [World.size_alloc]; omega) (fun _ h => by cases h)⟩
        case measure => simp [intOf]; omega
      · have HX := Lib.hid (fullIn_no hm)
        rw [tkI_no hm] at hc1
        clear hm
        go_wp2
        go_roundw
        case rel => exact ⟨k + 1, m, _, _, by omega, by go_num, rfl, by omega, by rw [HX.out]; exact ho, hbk⟩
        case measure => simp [intOf]; omega
    · have HK : Hid (k = (b : Int).toNat) := Lib.hid (by omega)
      go_wp2
      go_ret3
      have e1 : fullIn L k = fullOf (b : Int) ds := by rw [HK.out, HLE.out]; rfl
      rw [e1] at ho
      have e2 : (n : Int) - m = fellOf (b : Int) ds := by unfold fellOf; rw [HL.out, ho.len]
      exact ⟨A2, m, c2, by rw [← e2]; rfl, ho.base hs1, hb.trans (hbk.mono hs1)⟩
end Go.Proofs.Ytkeiajncmhkdmaa

namespace Go.Proofs.Ytkeiajncmhkdmaa
open Go.RowKit Go.Shelf

theorem lOver0 (p q : Int) (A : Option Addr) (n c B : Nat) (ds : List Int) (w : World) (hx : Ri w B A n ds) (hn : n ≤ 1099511627776) (hp : -1099511627776 ≤ p ∧ p ≤ 1099511627776) (hq : -1099511627776 ≤ q ∧ q ≤ 1099511627776) :
    Calls Try.prog 54 #[.int .i64 p, .slice A n c, .int .i64 q] w fun e w' => e = .returned (.int .i64 (overOf p ds q)) ∧ w = w' := by
  have HL := Lib.hid hx.len
  obtain ⟨hp1, hp2⟩ := hp
  obtain ⟨hq1, hq2⟩ := hq
  go_enter Try.func54, Try.ntmps54
  go_wp2
  go_loop [7, 9, 15] (fun t _ i => ∃ k : Nat, k ≤ n ∧ i = .int .i64 k ∧ t = .int .i64 (overOf p (ds.take k) q)) (fun _ _ i => n - (intOf i).toNat)
  case atStart => exact ⟨0, Nat.zero_le _, rfl, by simp [overOf, cntGe]⟩
  case round =>
    obtain ⟨k, hk, rfl, rfl⟩ := hrel
    by_cases hlt : k < n
    · obtain ⟨ad, d, rfl, _, hc, hxk, _⟩ := hx.at_ hlt
      obtain ⟨hb1, hb2⟩ := cntGe_bd q (ds.take k)
      have hl : (ds.take k).length ≤ 1099511627776 := by rw [List.length_take]; omega
      obtain ⟨s, HSE⟩ : ∃ s, Hid (s = cntGe q (ds.take k)) := ⟨_, Lib.hid rfl⟩
      have HO : Hid (overOf p (ds.take k) q = q - p + s) := Lib.hid (by rw [HSE.out]; rfl)
      rw [← HSE.out] at hb1 hb2
      rw [HO.out]
      by_cases hge : q ≤ d
      · have HX : Hid (overOf p (ds.take (k + 1)) q = q - p + s + 1) := Lib.hid (by rw [take_snoc hxk.out, overOf, cntGe_yes hge, HSE.out]; omega)
        go_wp2
        go_round
        case rel => exact ⟨k + 1, by omega, by go_num, by rw [HX.out]⟩
        case measure => simp [intOf]; omega
      · have HX : Hid (overOf p (ds.take (k + 1)) q = q - p + s) := Lib.hid (by rw [take_snoc hxk.out, overOf, cntGe_no hge, HSE.out])
        go_wp2
        go_round
        case rel => exact ⟨k + 1, by omega, by go_num, by rw [HX.out]⟩
        case measure => simp [intOf]; omega
    · have hk : k = n := by omega
      subst hk
      have ht : ds.take k = ds := List.take_of_length_le (by rw [HL.out]; omega)
      rw [ht]
      clear ht
      go_wp2
      go_ret
      exact ⟨rfl, rfl⟩

theorem lCheckOver_err (p q : Int) (A : Option Addr) (n c : Nat) (ds : List Int) (w : World) (hx : Ri w w.heap.size A n ds) (hn : n ≤ 1099511627776) (r : Int) (HR : Hid (checkDrops p ds = r)) (h0 : (r != 0) = true) :
    Calls Try.prog 26 #[.int .i64 p, .slice A n c, .int .i64 q] w fun e w' => e = .returned (.tuple #[.int .i64 0, .int .i64 r]) ∧ Below w.heap.size w w' := by
  go_enter Try.func26, Try.ntmps26
  go_wp2_with (go_at_call 23; refine (lCheckDrops _ _ _ _ _ _ hx hn _ HR).mono ?_; rintro e w1 ⟨rfl, hb⟩)
  go_ret2
  exact ⟨rfl, hb⟩
theorem lCheckOver_arg (p q : Int) (A : Option Addr) (n c : Nat) (ds : List Int) (w : World) (hx : Ri w w.heap.size A n ds) (hv : Valid p ds) (hq : q < 0 ∨ p ≤ q) :
    Calls Try.prog 26 #[.int .i64 p, .slice A n c, .int .i64 q] w fun e w' => e = .returned (.tuple #[.int .i64 0, .int .i64 2]) ∧ Below w.heap.size w w' := by
  have HR : Hid (checkDrops p ds = 0) := Lib.hid (checkDrops_valid.2 hv)
  have h3 : n ≤ 12 := by rw [← hx.len]; exact hv.many
  have h1 := hv.lo
  have h8 := hv.hi
  have HB : Hid ([q].any (outB 0 (p - 1)) = true) := Lib.hid (by simp [outB]; omega)
  go_enter Try.func26, Try.ntmps26
  go_wp2_with fail
  refine (lCheckDrops _ _ _ _ _ _ hx (by omega) _ HR).mono ?_
  rintro e w1 ⟨rfl, hb⟩
  have hlit := (Oi.lit1 w1 q).ri
  go_wp2_with (go_at_call 52; refine (lWithin _ _ _ _ _ _ _ hlit (by omega) _ HB).mono ?_; rintro e w2 ⟨rfl, hb2, hs⟩; clear hs)
  go_ret2
  exact ⟨rfl, hb.trans ((((Below.refl _ w1).alloc (Nat.le_refl _) _).trans (hb2.mono (by simp))).mono hb.size)⟩
theorem lCheckOver_ok (p q : Int) (A : Option Addr) (n c : Nat) (ds : List Int) (w : World) (hx : Ri w w.heap.size A n ds) (hv : Valid p ds) (hq1 : 0 ≤ q) (hq2 : q < p) :
    Calls Try.prog 26 #[.int .i64 p, .slice A n c, .int .i64 q] w fun e w' => e = .returned (.tuple #[.int .i64 (overOf p ds q), .int .i64 0]) ∧ Below w.heap.size w w' := by
  have HR : Hid (checkDrops p ds = 0) := Lib.hid (checkDrops_valid.2 hv)
  have h3 : n ≤ 12 := by rw [← hx.len]; exact hv.many
  have h1 := hv.lo
  have h8 := hv.hi
  have HB : Hid ([q].any (outB 0 (p - 1)) = false) := Lib.hid (by simp [outB]; omega)
  go_enter Try.func26, Try.ntmps26
  go_wp2_with fail
  refine (lCheckDrops _ _ _ _ _ _ hx (by omega) _ HR).mono ?_
  rintro e w1 ⟨rfl, hb⟩
  have hlit := (Oi.lit1 w1 q).ri
  go_wp2_with fail
  refine (lWithin _ _ _ _ _ _ _ hlit (by omega) _ HB).mono ?_
  rintro e w2 ⟨rfl, hb2, hs⟩
  clear hs
  have hbb : Below w.heap.size w w2 := hb.trans ((((Below.refl _ w1).alloc (Nat.le_refl _) _).trans (hb2.mono (by simp))).mono hb.size)
  have hx2 := hx.below hbb
  go_wp2_with (go_at_call 54; refine (lOver0 _ _ _ _ _ _ _ _ hx2 (by omega) (by omega) (by omega)).mono ?_; rintro e w' ⟨rfl, rfl⟩)
  go_ret2
  exact ⟨rfl, hbb⟩

theorem lIndex (A : Option Addr) (n c B : Nat) (xs : List Int) (z : Int) (w : World) (hx : Ri w B A n xs) (hn : n ≤ 1099511627776) (r : Bool) (HR : Hid (decide (z ∈ xs) = r)) :
    Calls Try.prog 72 #[.slice A n c, .int .i64 z] w fun e w' => (∃ k : Int, e = .returned (.int .i64 k) ∧ decide (0 ≤ k) = r) ∧ w = w' := by
  have HL := Lib.hid hx.len
  go_enter Try.func72, Try.ntmps72
  go_wp2
  go_loop [5, 8] (fun _ i => ∃ k : Nat, k ≤ n ∧ i = .int .i64 k ∧ Hid (z ∉ xs.take k)) (fun _ i => n - (intOf i).toNat)
  case atStart => exact ⟨0, Nat.zero_le _, rfl, Lib.hid (by simp)⟩
  case round =>
    obtain ⟨k, hk, rfl, hno⟩ := hrel
    by_cases hlt : k < n
    · obtain ⟨ad, x, rfl, _, hc, hxk, _⟩ := hx.at_ hlt
      by_cases hz : z = x
      · have HX : Hid (r = true) := Lib.hid (by rw [← HR.out, hz]; exact decide_eq_true (List.mem_of_getElem? hxk.out))
        subst hz
        go_wp2
        go_ret
        exact ⟨⟨k, rfl, by rw [HX.out]; simp⟩, rfl⟩
      · have HX : Hid (z ∉ xs.take (k + 1)) := Lib.hid (by rw [List.take_add_one, hxk.out]; simp; exact ⟨hno.out, hz⟩)
        go_wp2
        go_round
        case rel => exact ⟨k + 1, by omega, by go_num, HX⟩
        case measure => simp [intOf]; omega
    · have HX : Hid (r = false) := Lib.hid (by rw [← HR.out]; have := hno.out; rw [List.take_of_length_le (by rw [HL.out]; omega)] at this; exact decide_eq_false this)
      go_wp2
      go_ret
      exact ⟨⟨-1, rfl, by rw [HX.out]; simp⟩, rfl⟩
theorem lContains (A : Option Addr) (n c B : Nat) (xs : List Int) (z : Int) (w : World) (hx : Ri w B A n xs) (hn : n ≤ 1099511627776) (r : Bool) (HR : Hid (decide (z ∈ xs) = r)) :
    Calls Try.prog 59 #[.slice A n c, .int .i64 z] w fun e w' => e = .returned (.bool r) ∧ w = w' := by
  go_enter Try.func59, Try.ntmps59
  go_wp2_with (go_at_call 72; refine (lIndex _ _ _ _ _ _ _ hx hn _ HR).mono ?_; rintro e w' ⟨⟨k, rfl, hk⟩, rfl⟩; have HK := Lib.hid hk; clear hk)
  go_ret
  exact ⟨ret_b HK.out, rfl⟩
end Go.Proofs.Ytkeiajncmhkdmaa
