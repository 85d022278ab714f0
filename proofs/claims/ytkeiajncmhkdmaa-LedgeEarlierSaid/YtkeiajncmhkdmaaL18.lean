import Derived.Test.YtkeiajncmhkdmaaL17
import Derived.Test.YtkeiajncmhkdmaaRefB
import Derived.Laws.CopyOwn
namespace Go.Proofs.Ytkeiajncmhkdmaa
open Go.RowKit Go.Shelf

theorem size_int : (Try.prog.info? 3).map (·.size) = some 1 := by kernel_rfl
/-- A row that the call itself made is full of zeroes. -/
theorem make_int {w : World} {ops : Array Oper} {rest : List Oper} {o : Oper} {a : Act} {Q : Exit → Act → World → Prop} (hg : o.guard = none) (l c : Operand) (hop : o.op = .makeSlice 22 l c)
    (n : Nat) (V : Int) (hl : a.eval l = .int .i64 V) (hc : a.eval c = .int .i64 V) (hV : V = (n : Int)) (hn : n ≤ 1073741824)
    (h : ∀ w', Hid (w'.heap[w.heap.size]? = some (.cells (List.replicate n (Value.int .i64 0)).toArray 3 (0, 0))) → Below w.heap.size w w' → wpList Try.prog ops Q rest (a.put o.dst (.slice (some ⟨w.heap.size, 0, none⟩) n n)) w') : wpList Try.prog ops Q (o :: rest) a w := by
  obtain ⟨i0, hi, hz0, hz1, hz2⟩ := info_parts info_int
  refine wpList_make_full w hg l c _ hop w.heap.size _ i0 _ 1 under_ints hi hz0 hz1 .i64 .i64 _ _ n hl hc hV hV (by rw [hz2]; omega) (by unfold maxLen; omega) (Nat.le_refl _) ?_
  intro w' hown hgrow
  refine h w' ?_ (below_grown0 hgrow)
  have e : (madeCells (Value.int .i64 0).cells (n * 1)).toList = List.replicate n (Value.int .i64 0) := by
    rw [Nat.mul_one]
    show (madeCells #[Value.int .i64 0] n).toList = _
    rw [toList_madeCells_one]
  rw [e] at hown
  rcases hown.2 with ⟨h', _⟩ | ⟨g', cap', cur, h', _, hg', h4, _, h5, h6⟩
  · cases h'
  · injection h' with e1 e2 e3
    injection e1 with e1
    injection e1 with e1
    subst e1
    subst e3
    rw [Nat.mul_one] at h5 h6
    have hc : cur.toList = List.replicate n (Value.int .i64 0) := by
      rw [← h6]
      exact (List.take_of_length_le (by rw [Array.length_toList, h5]; exact Nat.le_refl _)).symm
    have hc2 : cur = (List.replicate n (Value.int .i64 0)).toArray := by rw [← hc]
    rw [← hc2]
    exact Lib.hid hg'

theorem Oi.source {w : World} {base n c : Nat} {A : Option Addr} {xs : List Int} (h : Oi w base A n c xs) (d : Option Addr) : 0 < (ints xs).length → d = d ∧ ∃ ad, A = some ad ∧ ∀ j v, (ints xs)[j]? = some v → w.cell? (ad.add j) = some v := by
  intro hpos
  rw [ints_length, h.len] at hpos
  refine ⟨rfl, ?_⟩
  obtain ⟨ad, _, hA, _⟩ := h.ri.at_ (k := 0) hpos
  refine ⟨ad, hA, fun j v hj => ?_⟩
  have hjn : j < n := by
    have := (List.getElem?_eq_some_iff.1 hj).1
    rw [ints_length, h.len] at this
    exact this
  obtain ⟨ad', y, hA', _, hc, hy, _⟩ := h.ri.at_ hjn
  rw [hA] at hA'
  cases hA'
  rw [ints, List.getElem?_map, hy.out] at hj
  cases hj
  exact hc

theorem lRound_err (p : Int) (A : Option Addr) (n c : Nat) (ds : List Int) (w : World) (hx : Ri w w.heap.size A n ds) (hn : n ≤ 1099511627776) (r : Int) (HR : Hid (checkDrops p ds = r)) (h0 : (r != 0) = true) :
    Calls Try.prog 40 #[.int .i64 p, .slice A n c] w fun e w' => e = .returned (.tuple #[.slice none 0 0, .int .i64 0, .int .i64 r]) ∧ Below w.heap.size w w' := by
  go_enter Try.func40, Try.ntmps40
  go_wp2_with (go_at_call 49; refine (lOpen_err _ _ _ _ _ _ _ hx hn _ HR h0).mono ?_; rintro e w1 ⟨rfl, hb⟩)
  go_ret3
  exact ⟨rfl, hb⟩
theorem lRound_many (p : Int) (A : Option Addr) (n c : Nat) (ds : List Int) (w : World) (hx : Ri w w.heap.size A n ds) (hn : n ≤ 1099511627776) (HR : Hid (checkDrops p ds = 0)) (h0 : p < (n : Int)) :
    Calls Try.prog 40 #[.int .i64 p, .slice A n c] w fun e w' => e = .returned (.tuple #[.slice none 0 0, .int .i64 0, .int .i64 10]) ∧ Below w.heap.size w w' := by
  go_enter Try.func40, Try.ntmps40
  go_wp2_with (go_at_call 49; refine (lOpen_many _ _ _ _ _ _ hx hn HR h0).mono ?_; rintro e w1 ⟨rfl, hb⟩)
  go_ret3
  exact ⟨rfl, hb⟩
theorem lRound_ok (b : Nat) (A : Option Addr) (n c : Nat) (ds : List Int) (w : World) (hx : Ri w w.heap.size A n ds) (hv : Valid (b : Int) ds) (hnb : n ≤ b) :
    Calls Try.prog 40 #[.int .i64 (b : Int), .slice A n c] w fun e w' => ∃ (A' : Option Addr), e = .returned (.tuple #[.slice A' n n, .int .i64 (runW true (b : Int) ds).2, .int .i64 0]) ∧
      Oi w' w.heap.size A' n n (runW true (b : Int) ds).1 ∧ Below w.heap.size w w' := by
  have h3 : n ≤ 12 := by rw [← hx.len]; exact hv.many
  have HIN : Hid (∀ d ∈ ds, 0 ≤ d ∧ d < (b : Int)) := Lib.hid hv.all
  go_enter Try.func40, Try.ntmps40
  go_wp2_with fail
  refine (lOpen _ _ _ _ _ _ _ hx hv (fun _ => hnb)).mono ?_
  rintro e w1 ⟨g, A1, c1, rfl, hp, hb⟩
  obtain ⟨L, HLE⟩ : ∃ L, Hid (L = (runW true (b : Int) ds).1) := ⟨_, Lib.hid rfl⟩
  obtain ⟨s, HS⟩ : ∃ s, Hid (s = (runW true (b : Int) ds).2) := ⟨_, Lib.hid rfl⟩
  rw [← HLE.out, ← HS.out] at hp
  have k2 : w1.cell? ⟨g, 10, none⟩ = some (.slice A1 n c1) := pu_cell hp.2.1 10
  have k3 : w1.cell? ⟨g, 11, none⟩ = some (.int .i64 s) := pu_cell hp.2.1 11
  have hgl : g < w1.heap.size := (Array.getElem?_eq_some_iff.1 hp.2.1).1
  have hs1 := hb.size
  have HO := Lib.hid hp.2.2
  go_wp2_with (first
    | (at_make; go_must (refine make_int rfl (.tmp 23) (.tmp 23) rfl n _ rfl rfl rfl (by omega) ?_); go_must (intro w2 HM hb2; have q2 : w2.cell? ⟨g, 10, none⟩ = some (.slice A1 n c1) := (hb2.cell hgl).trans k2; have q3 : w2.cell? ⟨g, 11, none⟩ = some (.int .i64 s) := (hb2.cell hgl).trans k3; have HO2 := Lib.hid (HO.out.below hb2); have hg2 := hb2.size))
    | (with_reducible (show wpList _ _ _ (⟨some 30, _, _, _, _, _⟩ :: _) _ _); go_must (refine wpList_copy_splice rfl (.tmp 25) (.tmp 29) 22 22 rfl 3 under_ints size_int (some ⟨w1.heap.size, 0, none⟩) A1 n n n c1 rfl rfl w1.heap.size 0 (List.replicate n (Value.int .i64 0)) 3 HM.out (ints L) (by rw [ints_length, HO2.out.len]; simp) (HO2.out.source _) (by rw [ints_length, HO2.out.len]; simp) (by simp [ints, Value.oneCell']) w1.heap.size w1 hb2 (Nat.le_refl _) ?_); go_must (intro w3 HM3 hb3; have q3' : w3.cell? ⟨g, 11, none⟩ = some (.int .i64 s) := (hb3.cell hgl).trans k3)))
  have hOut : Oi w3 w.heap.size (some ⟨w1.heap.size, 0, none⟩) n n L := by
    have hL := HO2.out.len
    have e : splice (List.replicate n (Value.int .i64 0)) 0 (ints L) = ints L := by
      unfold splice
      rw [List.take_zero, List.nil_append, List.drop_of_length_le (by rw [List.length_replicate, ints_length, hL]; omega), List.append_nil]
    have h := HM3.out
    rw [e] at h
    refine ⟨by rw [ints_length, hL]; omega, .inr ⟨w1.heap.size, n, (ints L).toArray, rfl, hs1, h, Nat.le_refl _, by unfold maxLen; omega, by rw [List.size_toArray, ints_length, hL]; omega, ?_⟩⟩
    exact List.take_of_length_le (by show (ints L).length ≤ n * 1; rw [ints_length, hL]; omega)
  have HOUT := Lib.hid hOut
  clear hOut
  go_quiet (fail)
  go_wp2
  go_ret3
  rw [← HLE.out, ← HS.out]
  exact ⟨_, rfl, HOUT.out.drewN _, below_drewN (hb.trans (hb3.mono hs1)) _⟩
end Go.Proofs.Ytkeiajncmhkdmaa
