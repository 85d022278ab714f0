/-
  skill: 'newBoard'.
-/
import Derived.Test.YtibmpjhffeinoaaGreatKp
namespace Go.Proofs.YtibmpjhffeinoaaGreat
open Go.RowKit

section
variable {w : World} {g n cP cM cW : Nat} {AP AM AW : Option Addr} {fs : List Int}
theorem bd_set (i : Nat) (x : Int) : (bdCells AP AM AW n cP cM cW fs).setIfInBounds (3 + i) (.int .i64 x) = bdCells AP AM AW n cP cM cW (fs.set i x) := by
  unfold bdCells
  rw [List.setIfInBounds_toArray, show 3 + i = i + 1 + 1 + 1 from by omega]
  simp only [List.set_cons_succ, ints, List.map_set]
theorem BdW.set (h : BdW w g AP AM AW n cP cM cW fs) (i : Nat) (x : Int) : BdW (w.setCell ⟨g, 3 + i, none⟩ (.int .i64 x)) g AP AM AW n cP cM cW (fs.set i x) := ⟨by
  have := h.bk.set_ (3 + i) (.int .i64 x)
  rw [bd_set] at this
  exact this, by rw [List.length_set]; exact h.len⟩
theorem BdW.cf (h : BdW w g AP AM AW n cP cM cW fs) {i : Nat} (hi : i < 14) : w.cell? ⟨g, 3 + i, none⟩ = some (.int .i64 (nth fs i)) := by
  have hl := h.len
  rw [h.bk.cell, show 3 + i = i + 1 + 1 + 1 from by omega]
  unfold bdCells
  simp [ints, nth, List.getElem?_eq_getElem (show i < fs.length by omega)]
theorem BdW.fr (h : BdW w g AP AM AW n cP cM cW fs) (i : Nat) : w.frozen? ⟨g, i, none⟩ = false := h.bk.frozen i
end

theorem under_far : Tryz.prog.underlying 133 = some (.array 14 3) := by kernel_rfl
theorem under_int1 : Tryz.prog.underlying 3 = some (.int .i64) := by kernel_rfl
theorem cells_int1 : Tryz.prog.cellsOf 3 = 1 := by kernel_rfl
theorem part_int1 (xs : Array Value) (i : Nat) (x : Int) (w : World) (h : xs[i]? = some (.int .i64 x)) : (part 3 xs (i * 1)).run Tryz.prog w = .ok (.int .i64 x) w := by
  have hi := (Array.getElem?_eq_some_iff.1 h).1
  simp [part, h]
/-- '==' of two arrays of ints, place by place. -/
theorem eqItems_ints1 (d : Nat) (w : World) (xs ys : List Int) : ∀ (is : List Nat), (∀ i ∈ is, i < xs.length ∧ i < ys.length) →
    ∃ r : Bool, (Op.eqItems (d + 1) 3 1 (ints xs).toArray (ints ys).toArray is).run Tryz.prog w = .ok r w ∧ (r = true ↔ ∀ i ∈ is, xs[i]? = ys[i]?)
  | [], _ => ⟨true, by simp [Op.eqItems], by simp⟩
  | i :: is, h => by
    obtain ⟨r', hr', hiff⟩ := eqItems_ints1 d w xs ys is (fun j hj => h j (by simp [hj]))
    obtain ⟨h1, h2⟩ := h i (by simp)
    have p1 := part_int1 (ints xs).toArray i xs[i] w (by simp [ints, h1])
    have p2 := part_int1 (ints ys).toArray i ys[i] w (by simp [ints, h2])
    have p3 := run_equalIn_int (P := Tryz.prog) (w := w) d 3 .i64 .i64 xs[i] ys[i] under_int1
    simp only [Op.eqItems, Sem.run_bind, p1, p2, p3, Result.andThen_ok]
    by_cases e : xs[i] = ys[i]
    · refine ⟨r', by simpa [e] using hr', ?_⟩
      rw [hiff]
      simp [h1, h2, e]
    · exact ⟨false, by simp [e], by simp [h1, h2, e]⟩
theorem eql_far (xs ys : List Int) (hx : xs.length = 14) (hy : ys.length = 14) (w : World) (r : Bool) (hr : decide (xs = ys) = r) :
    (binOp .eql 133 (.agg (ints xs).toArray) (.agg (ints ys).toArray)).run Tryz.prog w = .ok (.bool r) w := by
  obtain ⟨i0, hi, _, _, _⟩ := info_parts info_num
  obtain ⟨r', h1, h2⟩ := eqItems_ints1 9998 w xs ys (List.range 14) (fun i hi => by have := List.mem_range.1 hi; omega)
  have h3 := run_equalIn_array (P := Tryz.prog) (w := w) 9999 (ints xs).toArray (ints ys).toArray under_far hi
  rw [cells_int1, h1] at h3
  rw [run_eql_struct, h3]
  have : r' = r := by
    rw [← hr, Bool.eq_iff_iff, h2, decide_eq_true_iff]
    constructor
    · intro h
      apply List.ext_getElem?
      intro i
      rcases Nat.lt_or_ge i 14 with hlt | hge
      · exact h i (List.mem_range.2 hlt)
      · rw [List.getElem?_eq_none (by omega), List.getElem?_eq_none (by omega)]
    · rintro rfl i _
      rfl
  rw [this]
  rfl
theorem list14e {xs : List Int} (h : xs.length = 14) : xs = [nth xs 0, nth xs 1, nth xs 2, nth xs 3, nth xs 4, nth xs 5, nth xs 6, nth xs 7, nth xs 8, nth xs 9, nth xs 10, nth xs 11, nth xs 12, nth xs 13] := list14 h rfl fun i hi => by
  match i, hi with
  | 0, _ => rfl
  | 1, _ => rfl
  | 2, _ => rfl
  | 3, _ => rfl
  | 4, _ => rfl
  | 5, _ => rfl
  | 6, _ => rfl
  | 7, _ => rfl
  | 8, _ => rfl
  | 9, _ => rfl
  | 10, _ => rfl
  | 11, _ => rfl
  | 12, _ => rfl
  | 13, _ => rfl
theorem fa14 {fs : List Int} (h : fs.length = 14) : (ints fs).toArray = #[.int .i64 (nth fs 0), .int .i64 (nth fs 1), .int .i64 (nth fs 2), .int .i64 (nth fs 3), .int .i64 (nth fs 4), .int .i64 (nth fs 5), .int .i64 (nth fs 6), .int .i64 (nth fs 7), .int .i64 (nth fs 8), .int .i64 (nth fs 9), .int .i64 (nth fs 10), .int .i64 (nth fs 11), .int .i64 (nth fs 12), .int .i64 (nth fs 13)] := congrArg (fun l => (ints l).toArray) (list14e h)
theorem eql_far' {xs ys : List Int} (hx : xs.length = 14) (hy : ys.length = 14) (r : Bool) (hr : decide (xs = ys) = r) (w : World) :
    (binOp .eql 133 (.agg #[.int .i64 (nth xs 0), .int .i64 (nth xs 1), .int .i64 (nth xs 2), .int .i64 (nth xs 3), .int .i64 (nth xs 4), .int .i64 (nth xs 5), .int .i64 (nth xs 6), .int .i64 (nth xs 7), .int .i64 (nth xs 8), .int .i64 (nth xs 9), .int .i64 (nth xs 10), .int .i64 (nth xs 11), .int .i64 (nth xs 12), .int .i64 (nth xs 13)]) (.agg #[.int .i64 (nth ys 0), .int .i64 (nth ys 1), .int .i64 (nth ys 2), .int .i64 (nth ys 3), .int .i64 (nth ys 4), .int .i64 (nth ys 5), .int .i64 (nth ys 6), .int .i64 (nth ys 7), .int .i64 (nth ys 8), .int .i64 (nth ys 9), .int .i64 (nth ys 10), .int .i64 (nth ys 11), .int .i64 (nth ys 12), .int .i64 (nth ys 13)])).run Tryz.prog w = .ok (.bool r) w := by
  have := eql_far xs ys hx hy w r hr
  rw [fa14 hx, fa14 hy] at this
  exact this
set_option maxRecDepth 100000 in
set_option maxHeartbeats 4000000 in
theorem fNew (AP AM AW : Option Addr) (n cP cM cW : Nat) (ps ws : List Bool) (Ms : List (List Int)) (w : World) (hm : Mach w w.heap.size AP AM AW n ps Ms ws) :
    Calls Tryz.prog 169 #[.agg #[.slice AP n cP, .slice AM n cM, .slice AW n cW]] w fun e w' => ∃ (g K : Nat), e = .returned (.pointer (some ⟨g, 0, none⟩)) ∧ w.heap.size ≤ g ∧ BdW w' g AP AM AW n cP cM cW (rounds ps Ms ws n K) ∧ rounds ps Ms ws n (K + 1) = rounds ps Ms ws n K ∧ Below w.heap.size w w' := by
  have hbk := Bk.new w 59 #[.slice AP n cP, .slice AM n cM, .slice AW n cW]
  have hb1 := (Below.refl w.heap.size w).alloc (Nat.le_refl _) (.cells #[.slice AP n cP, .slice AM n cM, .slice AW n cW] 59)
  have c0 := hbk.cell 0
  have c1 := hbk.cell 1
  have c2 := hbk.cell 2
  have HW1 := Lib.hid hb1
  have hn1 := hm.n1
  have hn14 := hm.n14
  go_enter Tryz.func169, Tryz.ntmps169
  go_wp2
  have hst : BdW ((w.alloc (.cells #[.slice AP n cP, .slice AM n cM, .slice AW n cW] 59)).alloc (.cells (bdCells AP AM AW n cP cM cW (neg1 0)) 135)) (w.heap.size + 1) AP AM AW n cP cM cW (neg1 0) := ⟨by
    have := Bk.new (w.alloc (.cells #[.slice AP n cP, .slice AM n cM, .slice AW n cW] 59)) 135 (bdCells AP AM AW n cP cM cW (neg1 0))
    rw [World.size_alloc] at this
    exact this, neg1_len⟩
  have hsb : Below w.heap.size w ((w.alloc (.cells #[.slice AP n cP, .slice AM n cM, .slice AW n cW] 59)).alloc (.cells (bdCells AP AM AW n cP cM cW (neg1 0)) 135)) := hb1.alloc (by simp) _
  have hss : ((w.alloc (.cells #[.slice AP n cP, .slice AM n cM, .slice AW n cW] 59)).alloc (.cells (bdCells AP AM AW n cP cM cW (neg1 0)) 135)).heap.size = w.heap.size + 2 := by simp
  clear hbk hb1 c0 c1 c2 HW1
  go_loopw [4, 14] (fun _ i wr => ∃ k : Nat, k ≤ 14 ∧ i = .int .i64 (k : Int) ∧ BdW wr (w.heap.size + 1) AP AM AW n cP cM cW (neg1 k) ∧ wr.heap.size = w.heap.size + 2 ∧ Below w.heap.size w wr) (fun _ i _ => 14 - (intOf i).toNat)
  case atStart => exact ⟨0, Nat.zero_le _, rfl, hst, hss, hsb⟩
  case round =>
    obtain ⟨k, hk, rfl, hb, hs, hbel⟩ := hrel
    clear hst hsb hss
    by_cases hlt : k < 14
    · have f0 := hb.fr (3 + k)
      have hc := hb.cf hlt
      have hb2 := hb.set k (-1)
      rw [← neg1_set hlt] at hb2
      have hbel2 := hbel.setCell (p := ⟨w.heap.size + 1, 3 + k, none⟩) (by show w.heap.size ≤ w.heap.size + 1; omega) (.int .i64 (-1))
      go_wp2
      go_roundw
      case rel => exact ⟨k + 1, by omega, by go_num, hb2, by simp [hs, World.setCell], hbel2⟩
      case measure => simp [intOf]; omega
    · obtain rfl : k = 14 := by omega
      rw [neg1_14 ws] at hb
      have b2 := hb.c2
      go_wp2
      clear b2
      generalize Value.int IntKind.i64 ((14 : Nat) : Int) = z14
      go_loopw [5, 6, 29] (fun _ _ i wr => ∃ k : Nat, k ≤ n ∧ i = .int .i64 (k : Int) ∧ BdW wr (w.heap.size + 1) AP AM AW n cP cM cW (far0 ws k) ∧ wr.heap.size = w.heap.size + 2 ∧ Below w.heap.size w wr) (fun _ _ i _ => n - (intOf i).toNat)
      case atStart => exact ⟨0, Nat.zero_le _, rfl, hb, hs, hbel⟩
      case round =>
        clear hb hs hbel hk hlt
        obtain ⟨k, hk, rfl, hb, hs, hbel⟩ := hrel
        by_cases hlt : k < n
        · have hmr := hm.below hbel
          obtain ⟨a1, a2, a3, p, wn, L, A', c', rfl, rfl, rfl, k1, k2, k3, hc, hri, HP, HM, HW, HPL, hL⟩ := hmr.at_ hlt
          have hwk : IntKind.i64.wrap (k : Int) = (k : Int) := IntWalk.i64_in _ (by omega)
          clear k1 k2 hri HP HM HPL hmr
          cases wn
          · rw [← far0_no HW.out] at hb
            go_wp2
            go_roundw
            case rel => exact ⟨k + 1, by omega, by go_num, hb, hs, hbel⟩
            case measure => simp [intOf]; omega
          · have f0 := hb.fr (3 + k)
            have hcf := hb.cf (i := k) (by omega)
            have hb2 := hb.set k 0
            rw [← far0_yes (by omega) HW.out] at hb2
            have hbel2 := hbel.setCell (p := ⟨w.heap.size + 1, 3 + k, none⟩) (by show w.heap.size ≤ w.heap.size + 1; omega) (.int .i64 0)
            go_wp2
            go_roundw
            case rel => exact ⟨k + 1, by omega, by go_num, hb2, by simp [hs, World.setCell], hbel2⟩
            case measure => simp [intOf]; omega
        · obtain rfl : n = k := by omega
          go_wp2
          go_loopw [7] (fun rr wr => ∃ K : Nat, rr = .int .i64 ((K : Int) + 1) ∧ BdW wr (w.heap.size + 1) AP AM AW n cP cM cW (rounds ps Ms ws n K) ∧ K ≤ cnt (rounds ps Ms ws n K) ∧ w.heap.size + 2 ≤ wr.heap.size ∧ Below w.heap.size w wr) (fun rr _ => 20 - (intOf rr).toNat)
          case atStart => exact ⟨0, rfl, hb, Nat.zero_le _, by omega, hbel⟩
          case round =>
            clear hb hs hbel hk hlt
            obtain ⟨K, rfl, hb, hcnt, hs, hbel⟩ := hrel
            obtain ⟨W0, hW0⟩ : ∃ W0 : World, W0 = wr := ⟨_, rfl⟩
            subst hW0
            have hl14 := hb.len
            have hcl := cnt_len (rounds ps Ms ws n K)
            obtain ⟨fs, HF⟩ : ∃ fs, Hid (rounds ps Ms ws n K = fs) := ⟨_, Lib.hid rfl⟩
            rw [HF.out] at hb hcnt hl14 hcl
            have e0 : W0.cell? ⟨w.heap.size + 1, 3, none⟩ = some (.int .i64 (nth fs 0)) := hb.cf (i := 0) (by decide)
            have e1 : W0.cell? ⟨w.heap.size + 1, 4, none⟩ = some (.int .i64 (nth fs 1)) := hb.cf (i := 1) (by decide)
            have e2 : W0.cell? ⟨w.heap.size + 1, 5, none⟩ = some (.int .i64 (nth fs 2)) := hb.cf (i := 2) (by decide)
            have e3 : W0.cell? ⟨w.heap.size + 1, 6, none⟩ = some (.int .i64 (nth fs 3)) := hb.cf (i := 3) (by decide)
            have e4 : W0.cell? ⟨w.heap.size + 1, 7, none⟩ = some (.int .i64 (nth fs 4)) := hb.cf (i := 4) (by decide)
            have e5 : W0.cell? ⟨w.heap.size + 1, 8, none⟩ = some (.int .i64 (nth fs 5)) := hb.cf (i := 5) (by decide)
            have e6 : W0.cell? ⟨w.heap.size + 1, 9, none⟩ = some (.int .i64 (nth fs 6)) := hb.cf (i := 6) (by decide)
            have e7 : W0.cell? ⟨w.heap.size + 1, 10, none⟩ = some (.int .i64 (nth fs 7)) := hb.cf (i := 7) (by decide)
            have e8 : W0.cell? ⟨w.heap.size + 1, 11, none⟩ = some (.int .i64 (nth fs 8)) := hb.cf (i := 8) (by decide)
            have e9 : W0.cell? ⟨w.heap.size + 1, 12, none⟩ = some (.int .i64 (nth fs 9)) := hb.cf (i := 9) (by decide)
            have e10 : W0.cell? ⟨w.heap.size + 1, 13, none⟩ = some (.int .i64 (nth fs 10)) := hb.cf (i := 10) (by decide)
            have e11 : W0.cell? ⟨w.heap.size + 1, 14, none⟩ = some (.int .i64 (nth fs 11)) := hb.cf (i := 11) (by decide)
            have e12 : W0.cell? ⟨w.heap.size + 1, 15, none⟩ = some (.int .i64 (nth fs 12)) := hb.cf (i := 12) (by decide)
            have e13 : W0.cell? ⟨w.heap.size + 1, 16, none⟩ = some (.int .i64 (nth fs 13)) := hb.cf (i := 13) (by decide)
            have hbA := (Below.refl W0.heap.size W0).alloc (Nat.le_refl _) (.cells #[.int .i64 (nth fs 0), .int .i64 (nth fs 1), .int .i64 (nth fs 2), .int .i64 (nth fs 3), .int .i64 (nth fs 4), .int .i64 (nth fs 5), .int .i64 (nth fs 6), .int .i64 (nth fs 7), .int .i64 (nth fs 8), .int .i64 (nth fs 9), .int .i64 (nth fs 10), .int .i64 (nth fs 11), .int .i64 (nth fs 12), .int .i64 (nth fs 13)] 133)
            have hfa : Fa (W0.alloc (.cells #[.int .i64 (nth fs 0), .int .i64 (nth fs 1), .int .i64 (nth fs 2), .int .i64 (nth fs 3), .int .i64 (nth fs 4), .int .i64 (nth fs 5), .int .i64 (nth fs 6), .int .i64 (nth fs 7), .int .i64 (nth fs 8), .int .i64 (nth fs 9), .int .i64 (nth fs 10), .int .i64 (nth fs 11), .int .i64 (nth fs 12), .int .i64 (nth fs 13)] 133)) W0.heap.size fs := ⟨by
              rw [fa14 hl14]
              exact Bk.new W0 133 _, hl14⟩
            have hbd := hb.below hbA (by omega)
            have b1 := hbd.c1
            have hbel2 := hbel.trans (hbA.mono (by omega))
            have hsz : (W0.alloc (.cells #[.int .i64 (nth fs 0), .int .i64 (nth fs 1), .int .i64 (nth fs 2), .int .i64 (nth fs 3), .int .i64 (nth fs 4), .int .i64 (nth fs 5), .int .i64 (nth fs 6), .int .i64 (nth fs 7), .int .i64 (nth fs 8), .int .i64 (nth fs 9), .int .i64 (nth fs 10), .int .i64 (nth fs 11), .int .i64 (nth fs 12), .int .i64 (nth fs 13)] 133)).heap.size = W0.heap.size + 1 := by simp
            clear hbA
            go_wp2
            clear e0 e1 e2 e3 e4 e5 e6 e7 e8 e9 e10 e11 e12 e13 b1
            go_loopw [10, 54] (fun _ i wr2 => ∃ k : Nat, k ≤ n ∧ i = .int .i64 (k : Int) ∧ BdW wr2 (w.heap.size + 1) AP AM AW n cP cM cW (stepAt ps Ms ((K : Int) + 1) fs k) ∧ Fa wr2 W0.heap.size fs ∧ W0.heap.size + 1 ≤ wr2.heap.size ∧ Below w.heap.size w wr2) (fun _ i _ => n - (intOf i).toNat)
            case atStart => exact ⟨0, Nat.zero_le _, rfl, by rw [stepAt_0 hl14]; exact hbd, hfa, by rw [hsz]; omega, hbel2⟩
            case round =>
              clear hbd hfa hsz hbel2
              obtain ⟨k, hk, rfl, hb2, hf2, hs2, hbel2⟩ := hrel
              by_cases hlt : k < n
              · have hwk : IntKind.i64.wrap (k : Int) = (k : Int) := IntWalk.i64_in _ (by omega)
                have hcf := hf2.cell (i := k) (by omega)
                obtain ⟨y, HY⟩ : ∃ y, Hid (nth fs k = y) := ⟨_, Lib.hid rfl⟩
                rw [HY.out] at hcf
                by_cases hy : y < 0
                · have hmr := hm.next hbel2 (Nat.le_refl _) (by omega)
                  obtain ⟨r, HR⟩ : ∃ r, Hid (winB ps Ms fs k = r) := ⟨_, Lib.hid rfl⟩
                  cases r
                  · have HS : Hid (stepAt ps Ms ((K : Int) + 1) fs (k + 1) = stepAt ps Ms ((K : Int) + 1) fs k) := Lib.hid (stepAt_no fun h => by rw [HR.out] at h; exact absurd h.2 (by simp))
                    go_wp2_with (go_at_call 76; refine (fWins k _ _ AP AM AW n cP cM cW ps ws Ms fs _ _ hmr hb2 hf2 hlt _ HR).mono ?_; rintro e w3 ⟨rfl, hb3⟩; have hb4 := hb2.below hb3 (by omega); have hf4 := hf2.below hb3 (by omega); have hs4 := hb3.size; have hbel4 := hbel2.trans (hb3.mono (by omega)); clear hb3 hb2 hf2 hbel2 hmr hcf)
                    go_roundw
                    case rel => exact ⟨k + 1, by omega, by go_num, by rw [HS.out]; exact hb4, hf4, by omega, hbel4⟩
                    case measure => simp [intOf]; omega
                  · have HS : Hid (stepAt ps Ms ((K : Int) + 1) fs (k + 1) = (stepAt ps Ms ((K : Int) + 1) fs k).set k ((K : Int) + 1)) := Lib.hid (stepAt_yes (by omega) (by rw [HY.out]; exact hy) HR.out)
                    go_wp2_with (go_at_call 76; refine (fWins k _ _ AP AM AW n cP cM cW ps ws Ms fs _ _ hmr hb2 hf2 hlt _ HR).mono ?_; rintro e w3 ⟨rfl, hb3⟩; have hb4 := hb2.below hb3 (by omega); have hf4 := hf2.below hb3 (by omega); have hs4 := hb3.size; have hbel4 := hbel2.trans (hb3.mono (by omega)); clear hb3 hb2 hf2 hbel2 hmr hcf; have f0 := hb4.fr (3 + k); have hcg := hb4.cf (i := k) (by omega); have hb5 := hb4.set k ((K : Int) + 1); rw [← HS.out] at hb5; have hbel5 := hbel4.setCell (p := ⟨w.heap.size + 1, 3 + k, none⟩) (by show w.heap.size ≤ w.heap.size + 1; omega) (.int .i64 ((K : Int) + 1)); have hf5 : Fa (w3.setCell ⟨w.heap.size + 1, 3 + k, none⟩ (.int .i64 ((K : Int) + 1))) W0.heap.size fs := ⟨hf4.1.far (by show W0.heap.size ≠ w.heap.size + 1; omega) _, hf4.2⟩)
                    go_roundw
                    case rel => exact ⟨k + 1, by omega, by go_num, hb5, hf5, by simp [World.setCell]; omega, hbel5⟩
                    case measure => simp [intOf]; omega
                · have HS : Hid (stepAt ps Ms ((K : Int) + 1) fs (k + 1) = stepAt ps Ms ((K : Int) + 1) fs k) := Lib.hid (stepAt_no fun h => by rw [HY.out] at h; omega)
                  go_wp2
                  go_roundw
                  case rel => exact ⟨k + 1, by omega, by go_num, by rw [HS.out]; exact hb2, hf2, by omega, hbel2⟩
                  case measure => simp [intOf]; omega
              · obtain rfl : n = k := by omega
                have hgl := hb2.len
                obtain ⟨gs, HG⟩ : ∃ gs, Hid (stepAt ps Ms ((K : Int) + 1) fs n = gs) := ⟨_, Lib.hid rfl⟩
                rw [HG.out] at hb2 hgl
                have e0 : wr.cell? ⟨w.heap.size + 1, 3, none⟩ = some (.int .i64 (nth gs 0)) := hb2.cf (i := 0) (by decide)
                have e1 : wr.cell? ⟨w.heap.size + 1, 4, none⟩ = some (.int .i64 (nth gs 1)) := hb2.cf (i := 1) (by decide)
                have e2 : wr.cell? ⟨w.heap.size + 1, 5, none⟩ = some (.int .i64 (nth gs 2)) := hb2.cf (i := 2) (by decide)
                have e3 : wr.cell? ⟨w.heap.size + 1, 6, none⟩ = some (.int .i64 (nth gs 3)) := hb2.cf (i := 3) (by decide)
                have e4 : wr.cell? ⟨w.heap.size + 1, 7, none⟩ = some (.int .i64 (nth gs 4)) := hb2.cf (i := 4) (by decide)
                have e5 : wr.cell? ⟨w.heap.size + 1, 8, none⟩ = some (.int .i64 (nth gs 5)) := hb2.cf (i := 5) (by decide)
                have e6 : wr.cell? ⟨w.heap.size + 1, 9, none⟩ = some (.int .i64 (nth gs 6)) := hb2.cf (i := 6) (by decide)
                have e7 : wr.cell? ⟨w.heap.size + 1, 10, none⟩ = some (.int .i64 (nth gs 7)) := hb2.cf (i := 7) (by decide)
                have e8 : wr.cell? ⟨w.heap.size + 1, 11, none⟩ = some (.int .i64 (nth gs 8)) := hb2.cf (i := 8) (by decide)
                have e9 : wr.cell? ⟨w.heap.size + 1, 12, none⟩ = some (.int .i64 (nth gs 9)) := hb2.cf (i := 9) (by decide)
                have e10 : wr.cell? ⟨w.heap.size + 1, 13, none⟩ = some (.int .i64 (nth gs 10)) := hb2.cf (i := 10) (by decide)
                have e11 : wr.cell? ⟨w.heap.size + 1, 14, none⟩ = some (.int .i64 (nth gs 11)) := hb2.cf (i := 11) (by decide)
                have e12 : wr.cell? ⟨w.heap.size + 1, 15, none⟩ = some (.int .i64 (nth gs 12)) := hb2.cf (i := 12) (by decide)
                have e13 : wr.cell? ⟨w.heap.size + 1, 16, none⟩ = some (.int .i64 (nth gs 13)) := hb2.cf (i := 13) (by decide)
                have d0 : wr.cell? ⟨W0.heap.size, 0, none⟩ = some (.int .i64 (nth fs 0)) := hf2.cell (i := 0) (by decide)
                have d1 : wr.cell? ⟨W0.heap.size, 1, none⟩ = some (.int .i64 (nth fs 1)) := hf2.cell (i := 1) (by decide)
                have d2 : wr.cell? ⟨W0.heap.size, 2, none⟩ = some (.int .i64 (nth fs 2)) := hf2.cell (i := 2) (by decide)
                have d3 : wr.cell? ⟨W0.heap.size, 3, none⟩ = some (.int .i64 (nth fs 3)) := hf2.cell (i := 3) (by decide)
                have d4 : wr.cell? ⟨W0.heap.size, 4, none⟩ = some (.int .i64 (nth fs 4)) := hf2.cell (i := 4) (by decide)
                have d5 : wr.cell? ⟨W0.heap.size, 5, none⟩ = some (.int .i64 (nth fs 5)) := hf2.cell (i := 5) (by decide)
                have d6 : wr.cell? ⟨W0.heap.size, 6, none⟩ = some (.int .i64 (nth fs 6)) := hf2.cell (i := 6) (by decide)
                have d7 : wr.cell? ⟨W0.heap.size, 7, none⟩ = some (.int .i64 (nth fs 7)) := hf2.cell (i := 7) (by decide)
                have d8 : wr.cell? ⟨W0.heap.size, 8, none⟩ = some (.int .i64 (nth fs 8)) := hf2.cell (i := 8) (by decide)
                have d9 : wr.cell? ⟨W0.heap.size, 9, none⟩ = some (.int .i64 (nth fs 9)) := hf2.cell (i := 9) (by decide)
                have d10 : wr.cell? ⟨W0.heap.size, 10, none⟩ = some (.int .i64 (nth fs 10)) := hf2.cell (i := 10) (by decide)
                have d11 : wr.cell? ⟨W0.heap.size, 11, none⟩ = some (.int .i64 (nth fs 11)) := hf2.cell (i := 11) (by decide)
                have d12 : wr.cell? ⟨W0.heap.size, 12, none⟩ = some (.int .i64 (nth fs 12)) := hf2.cell (i := 12) (by decide)
                have d13 : wr.cell? ⟨W0.heap.size, 13, none⟩ = some (.int .i64 (nth fs 13)) := hf2.cell (i := 13) (by decide)
                obtain ⟨r, HR⟩ : ∃ r, Hid (decide (gs = fs) = r) := ⟨_, Lib.hid rfl⟩
                have heq := fun W => eql_far' hgl hl14 r HR.out W
                go_wp2
                refine wp_region_still_tail 5 (by kernel_rfl) (by kernel_rfl) ?_
                simp only [List.take_succ_cons, List.take_zero, List.drop_succ_cons, List.drop_zero]
                change wpStill _ _ wr.drew _ _ _
                replace e0 : wr.drew.cell? ⟨w.heap.size + 1, 3, none⟩ = some (.int .i64 (nth gs 0)) := e0
                replace e1 : wr.drew.cell? ⟨w.heap.size + 1, 4, none⟩ = some (.int .i64 (nth gs 1)) := e1
                replace e2 : wr.drew.cell? ⟨w.heap.size + 1, 5, none⟩ = some (.int .i64 (nth gs 2)) := e2
                replace e3 : wr.drew.cell? ⟨w.heap.size + 1, 6, none⟩ = some (.int .i64 (nth gs 3)) := e3
                replace e4 : wr.drew.cell? ⟨w.heap.size + 1, 7, none⟩ = some (.int .i64 (nth gs 4)) := e4
                replace e5 : wr.drew.cell? ⟨w.heap.size + 1, 8, none⟩ = some (.int .i64 (nth gs 5)) := e5
                replace e6 : wr.drew.cell? ⟨w.heap.size + 1, 9, none⟩ = some (.int .i64 (nth gs 6)) := e6
                replace e7 : wr.drew.cell? ⟨w.heap.size + 1, 10, none⟩ = some (.int .i64 (nth gs 7)) := e7
                replace e8 : wr.drew.cell? ⟨w.heap.size + 1, 11, none⟩ = some (.int .i64 (nth gs 8)) := e8
                replace e9 : wr.drew.cell? ⟨w.heap.size + 1, 12, none⟩ = some (.int .i64 (nth gs 9)) := e9
                replace e10 : wr.drew.cell? ⟨w.heap.size + 1, 13, none⟩ = some (.int .i64 (nth gs 10)) := e10
                replace e11 : wr.drew.cell? ⟨w.heap.size + 1, 14, none⟩ = some (.int .i64 (nth gs 11)) := e11
                replace e12 : wr.drew.cell? ⟨w.heap.size + 1, 15, none⟩ = some (.int .i64 (nth gs 12)) := e12
                replace e13 : wr.drew.cell? ⟨w.heap.size + 1, 16, none⟩ = some (.int .i64 (nth gs 13)) := e13
                replace d0 : wr.drew.cell? ⟨W0.heap.size, 0, none⟩ = some (.int .i64 (nth fs 0)) := d0
                replace d1 : wr.drew.cell? ⟨W0.heap.size, 1, none⟩ = some (.int .i64 (nth fs 1)) := d1
                replace d2 : wr.drew.cell? ⟨W0.heap.size, 2, none⟩ = some (.int .i64 (nth fs 2)) := d2
                replace d3 : wr.drew.cell? ⟨W0.heap.size, 3, none⟩ = some (.int .i64 (nth fs 3)) := d3
                replace d4 : wr.drew.cell? ⟨W0.heap.size, 4, none⟩ = some (.int .i64 (nth fs 4)) := d4
                replace d5 : wr.drew.cell? ⟨W0.heap.size, 5, none⟩ = some (.int .i64 (nth fs 5)) := d5
                replace d6 : wr.drew.cell? ⟨W0.heap.size, 6, none⟩ = some (.int .i64 (nth fs 6)) := d6
                replace d7 : wr.drew.cell? ⟨W0.heap.size, 7, none⟩ = some (.int .i64 (nth fs 7)) := d7
                replace d8 : wr.drew.cell? ⟨W0.heap.size, 8, none⟩ = some (.int .i64 (nth fs 8)) := d8
                replace d9 : wr.drew.cell? ⟨W0.heap.size, 9, none⟩ = some (.int .i64 (nth fs 9)) := d9
                replace d10 : wr.drew.cell? ⟨W0.heap.size, 10, none⟩ = some (.int .i64 (nth fs 10)) := d10
                replace d11 : wr.drew.cell? ⟨W0.heap.size, 11, none⟩ = some (.int .i64 (nth fs 11)) := d11
                replace d12 : wr.drew.cell? ⟨W0.heap.size, 12, none⟩ = some (.int .i64 (nth fs 12)) := d12
                replace d13 : wr.drew.cell? ⟨W0.heap.size, 13, none⟩ = some (.int .i64 (nth fs 13)) := d13
                iterate 5 still_step
                refine wpStill_nil ?_
                have HRS : rounds ps Ms ws n (K + 1) = gs := by
                  show stepAt ps Ms ((K : Int) + 1) (rounds ps Ms ws n K) n = gs
                  rw [HF.out, HG.out]
                have hb6 : BdW wr.drew (w.heap.size + 1) AP AM AW n cP cM cW gs := ⟨hb2.1, hb2.2⟩
                have hbel6 := below_drewN hbel2 1
                clear e0 e1 e2 e3 e4 e5 e6 e7 e8 e9 e10 e11 e12 e13 d0 d1 d2 d3 d4 d5 d6 d7 d8 d9 d10 d11 d12 d13
                cases r
                · have hne : gs ≠ fs := by simpa using HR.out
                  have hcs := cnt_step (ps := ps) (Ms := Ms) (r := (K : Int) + 1) (fs := fs) (n := n) (by omega) hl14 (by rw [HG.out]; exact hne)
                  rw [HG.out] at hcs
                  go_wp2
                  refine ⟨⟨K + 1, by push_cast; rfl, by rw [HRS]; exact hb6, by rw [HRS]; omega, by show _ ≤ wr.heap.size; omega, hbel6⟩, ?_⟩
                  simp only [intOf]
                  omega
                · have hne : Hid (gs = fs) := Lib.hid (by simpa using HR.out)
                  go_wp2
                  go_ret
                  exact ⟨w.heap.size + 1, K, rfl, by omega, by rw [HF.out, ← hne.out]; exact hb6, by rw [HRS, HF.out]; exact hne.out, hbel6⟩
end Go.Proofs.YtibmpjhffeinoaaGreat
