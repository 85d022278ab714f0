/-
  The laws: 'Later'.
-/
import Derived.Test.YtaekjnjignlmoaaWl
import Derived.Test.YtaekjnjignlmoaaLw3
namespace Go.Proofs.Ytaekjnjignlmoaa
open Go.RowKit Go.Shelf

/-- A To within its limits. -/
def clip (z : Int) : Int := if z < 9000 then (if 0 < z then z else 0) else 9000
def latr (k : Int) (ps : List (Int × Int)) : List (Int × Int) := ps.map fun x => (x.1, clip (x.2 + k))
theorem latr_len (k : Int) (ps : List (Int × Int)) : (latr k ps).length = ps.length := by simp [latr]
theorem latr_at (k : Int) (ps : List (Int × Int)) {i : Nat} (hi : i < ps.length) : plc (latr k ps) i = plc ps i ∧ too (latr k ps) i = clip (too ps i + k) := by
  unfold plc too latr
  rw [List.getElem?_map, List.getElem?_eq_getElem hi]
  simp
theorem clip_bd (z : Int) : 0 ≤ clip z ∧ clip z ≤ 9000 := by
  unfold clip
  split
  · split <;> omega
  · omega
theorem latr_pier {b : Int} {ps : List (Int × Int)} (hp : Pier b ps) (k : Int) : Pier b (latr k ps) :=
  same_pier hp (latr_len k ps) (fun i hi => (latr_at k ps hi).1) fun i hi => by rw [(latr_at k ps hi).2]; exact clip_bd _

set_option maxRecDepth 100000 in
set_option maxHeartbeats 4000000 in
theorem aLater (b : Int) (A : Option Addr) (n c : Nat) (ps : List (Int × Int)) (m : Int) (w : World) (hx : Rp w w.heap.size A n ps) (HP : Hid (Pier b ps)) (hm : -100000 ≤ m ∧ m ≤ 100000) :
    Calls Try.prog 50 #[.agg #[.int .i64 b, .slice A n c], .int .i64 m] w (RetP w b n (latr m ps)) := by
  have HL := Lib.hid hx.len
  have hn10 : n ≤ 10 := by have := HP.out.hi; have := HL.out; omega
  obtain ⟨P, hP⟩ : ∃ t, t = 24 := ⟨_, rfl⟩
  have k3 := ((Bk.new w 24 #[.int .i64 b, .slice A n c]).alloc (.cells #[.int .i64 0, .slice none 0 0] 24)).alloc (.cells #[.int .i64 b, .slice none 0 0] 24)
  have k4 := (Bk.new (w.alloc (.cells #[.int .i64 b, .slice A n c] 24)) 24 #[.int .i64 0, .slice none 0 0]).alloc (.cells #[.int .i64 b, .slice none 0 0] 24)
  have k5 := Bk.new ((w.alloc (.cells #[.int .i64 b, .slice A n c] 24)).alloc (.cells #[.int .i64 0, .slice none 0 0] 24)) 24 #[.int .i64 b, .slice none 0 0]
  have hb0 : Below w.heap.size w (((w.alloc (.cells #[.int .i64 b, .slice A n c] 24)).alloc (.cells #[.int .i64 0, .slice none 0 0] 24)).alloc (.cells #[.int .i64 b, .slice none 0 0] 24)) := (((Below.refl _ w).alloc (Nat.le_refl _) _).alloc (by simp) _).alloc (by simp; omega) _
  simp only [World.size_alloc] at k4 k5
  clear hP P
  have q0 := ((Bk.new w 24 #[.int .i64 b, .slice A n c]).alloc (.cells #[.int .i64 0, .slice none 0 0] 24)).cell 0
  go_enter Try.func50, Try.ntmps50
  go_wp2
  clear q0
  go_loopw [6] (fun i wr => ∃ (k : Nat) (A' : Option Addr) (c' : Nat), k ≤ n ∧ i = .int .i64 k ∧ Bk wr w.heap.size 24 #[.int .i64 b, .slice A n c] ∧ Bk wr (w.heap.size + 1) 24 #[.int .i64 0, .slice none 0 0] ∧ Bk wr (w.heap.size + 1 + 1) 24 #[.int .i64 b, .slice A' k c'] ∧ Os wr (w.heap.size + 3) A' k c' (latr m (ps.take k)) ∧ Below w.heap.size w wr) (fun i _ => n - (intOf i).toNat)
  case atStart => exact ⟨0, none, 0, Nat.zero_le _, rfl, k3, k4, k5, Os.nil_ _ _, hb0⟩
  case round =>
    clear hb0 k4 k5 k3
    obtain ⟨k, A', c', hk, rfl, h3, h4, h5, ho, hb⟩ := hrel
    have c1 : wr.cell? ⟨w.heap.size, 1, none⟩ = some (.slice A n c) := h3.cell 1
    have hsz : w.heap.size + 3 ≤ wr.heap.size := by have := h5.lt; omega
    by_cases hlt : k < n
    · obtain ⟨ad, rfl, hadb, cx, cy⟩ := (hx.below hb).at2 hlt
      obtain ⟨x, HX⟩ : ∃ x, Hid (plc ps k = x) := ⟨_, Lib.hid rfl⟩
      obtain ⟨y, HY⟩ : ∃ y, Hid (too ps k = y) := ⟨_, Lib.hid rfl⟩
      have hxb := HP.out.at_ k
      rw [HX.out] at cx hxb
      rw [HY.out] at cy hxb
      have HGK : Hid (ps[k]? = some (x, y)) := Lib.hid (by
        have hk2 : k < ps.length := by rw [HL.out]; exact hlt
        have := plc_some (List.getElem?_eq_getElem hk2)
        rw [HX.out, HY.out] at this
        rw [List.getElem?_eq_getElem hk2]
        exact congrArg some (Prod.ext this.1.symm this.2.symm))
      obtain ⟨z, HZ⟩ : ∃ z, Hid (y + m = z) := ⟨_, Lib.hid rfl⟩
      have hwz : IntKind.i64.wrap (y + m) = z := (IntWalk.i64_in _ (by omega)).trans HZ.out
      obtain ⟨u, HU⟩ : ∃ u, Hid (clip z = u) := ⟨_, Lib.hid rfl⟩
      have HLS : Hid (latr m (ps.take (k + 1)) = latr m (ps.take k) ++ [(x, u)]) := Lib.hid (by
        unfold latr
        rw [take_snoc HGK.out, List.map_append]
        simp [HZ.out, HU.out])
      have c5 : wr.cell? ⟨w.heap.size + 1 + 1, 1, none⟩ = some (.slice A' k c') := h5.cell 1
      have f5 := h5.frozen 1
      by_cases q1 : z < 9000
      · by_cases q2 : 0 < z
        · have hu : u = z := by rw [← HU.out]; unfold clip; rw [if_pos q1, if_pos q2]
          have S0 := Bk.new wr 67 #[.int .i64 x, .int .i64 (z)]
          have c5 : (wr.alloc (.cells #[.int .i64 x, .int .i64 z] 67)).cell? ⟨w.heap.size + 1 + 1, 1, none⟩ = some (.slice A' k c') := (h5.alloc _).cell 1
          have hnb := Bk.new (wr.alloc (.cells #[.int .i64 x, .int .i64 (z)] 67)) 67 #[.int .i64 x, .int .i64 (z)]
          rw [World.size_alloc] at hnb
          have o3 := (ho.alloc (.cells #[.int .i64 x, .int .i64 (z)] 67)).alloc (.cells #[.int .i64 x, .int .i64 (z)] 67)
          have b3 := (h3.alloc (.cells #[.int .i64 x, .int .i64 (z)] 67)).alloc (.cells #[.int .i64 x, .int .i64 (z)] 67)
          have b4 := (h4.alloc (.cells #[.int .i64 x, .int .i64 (z)] 67)).alloc (.cells #[.int .i64 x, .int .i64 (z)] 67)
          have b5 := (h5.alloc (.cells #[.int .i64 x, .int .i64 (z)] 67)).alloc (.cells #[.int .i64 x, .int .i64 (z)] 67)
          have bb := (hb.alloc (by omega) (.cells #[.int .i64 x, .int .i64 (z)] 67)).alloc (by simp; omega) (.cells #[.int .i64 x, .int .i64 (z)] 67)
          have hAb : ∀ r, A'.map Addr.block = some r → w.heap.size ≤ r := fun r e => by have := (ho.lt r e).1; omega
          have HU2 := Lib.hid hu
          clear hu
          go_wp2_with (at_builtin; go_must (refine push_stop rfl (.tmp 31) (.tmp 33) rfl (w.heap.size + 3) A' k c' (latr m (ps.take k)) rfl o3 ⟨wr.heap.size + 1, 0, none⟩ 1 x (z) rfl (hnb.cell 0) (hnb.cell 1) (by omega) (by simp; omega) ?_); intro g3 cap3 v3w ho3 hg3; have h53 := b5.grown hg3 (o3.bk_ne b5 (by decide)); have c53 : v3w.cell? ⟨w.heap.size + 1 + 1, 1, none⟩ = some (.slice A' k c') := h53.cell 1; have f53 := h53.frozen 1)
          have h33 := b3.grown hg3 (o3.bk_ne b3 (by decide))
          have h43 := b4.grown hg3 (o3.bk_ne b4 (by decide))
          have hb3 : Below w.heap.size w v3w := bb.grown hg3 (by simp; omega) hAb
          have h54 := h53.set_ 1 (.slice (some ⟨g3, 0, none⟩) (k + 1) cap3)
          have h34 := h33.far (p := ⟨w.heap.size + 1 + 1, 1, none⟩) (by simp; omega) (.slice (some ⟨g3, 0, none⟩) (k + 1) cap3)
          have h44 := h43.far (p := ⟨w.heap.size + 1 + 1, 1, none⟩) (by simp) (.slice (some ⟨g3, 0, none⟩) (k + 1) cap3)
          have ho4 := ho3.setOther (p := ⟨w.heap.size + 1 + 1, 1, none⟩) (ho3.bk_ne h53 (by decide)) (.slice (some ⟨g3, 0, none⟩) (k + 1) cap3)
          have hb4 := hb3.setCell (p := ⟨w.heap.size + 1 + 1, 1, none⟩) (by simp; omega) (.slice (some ⟨g3, 0, none⟩) (k + 1) cap3)
          go_roundw
          case rel => exact ⟨k + 1, some ⟨g3, 0, none⟩, cap3, by omega, by go_num, h34, h44, h54, by rw [HLS.out, HU2.out]; exact ho4, hb4⟩
          case measure => simp [intOf]; omega
        · have hu : u = 0 := by rw [← HU.out]; unfold clip; rw [if_pos q1, if_neg q2]
          have S0 := Bk.new wr 67 #[.int .i64 x, .int .i64 (0)]
          have c5 : (wr.alloc (.cells #[.int .i64 x, .int .i64 0] 67)).cell? ⟨w.heap.size + 1 + 1, 1, none⟩ = some (.slice A' k c') := (h5.alloc _).cell 1
          have hnb := Bk.new (wr.alloc (.cells #[.int .i64 x, .int .i64 (0)] 67)) 67 #[.int .i64 x, .int .i64 (0)]
          rw [World.size_alloc] at hnb
          have o3 := (ho.alloc (.cells #[.int .i64 x, .int .i64 (0)] 67)).alloc (.cells #[.int .i64 x, .int .i64 (0)] 67)
          have b3 := (h3.alloc (.cells #[.int .i64 x, .int .i64 (0)] 67)).alloc (.cells #[.int .i64 x, .int .i64 (0)] 67)
          have b4 := (h4.alloc (.cells #[.int .i64 x, .int .i64 (0)] 67)).alloc (.cells #[.int .i64 x, .int .i64 (0)] 67)
          have b5 := (h5.alloc (.cells #[.int .i64 x, .int .i64 (0)] 67)).alloc (.cells #[.int .i64 x, .int .i64 (0)] 67)
          have bb := (hb.alloc (by omega) (.cells #[.int .i64 x, .int .i64 (0)] 67)).alloc (by simp; omega) (.cells #[.int .i64 x, .int .i64 (0)] 67)
          have hAb : ∀ r, A'.map Addr.block = some r → w.heap.size ≤ r := fun r e => by have := (ho.lt r e).1; omega
          have HU2 := Lib.hid hu
          clear hu
          go_wp2_with (at_builtin; go_must (refine push_stop rfl (.tmp 31) (.tmp 33) rfl (w.heap.size + 3) A' k c' (latr m (ps.take k)) rfl o3 ⟨wr.heap.size + 1, 0, none⟩ 1 x (0) rfl (hnb.cell 0) (hnb.cell 1) (by omega) (by simp; omega) ?_); intro g3 cap3 v3w ho3 hg3; have h53 := b5.grown hg3 (o3.bk_ne b5 (by decide)); have c53 : v3w.cell? ⟨w.heap.size + 1 + 1, 1, none⟩ = some (.slice A' k c') := h53.cell 1; have f53 := h53.frozen 1)
          have h33 := b3.grown hg3 (o3.bk_ne b3 (by decide))
          have h43 := b4.grown hg3 (o3.bk_ne b4 (by decide))
          have hb3 : Below w.heap.size w v3w := bb.grown hg3 (by simp; omega) hAb
          have h54 := h53.set_ 1 (.slice (some ⟨g3, 0, none⟩) (k + 1) cap3)
          have h34 := h33.far (p := ⟨w.heap.size + 1 + 1, 1, none⟩) (by simp; omega) (.slice (some ⟨g3, 0, none⟩) (k + 1) cap3)
          have h44 := h43.far (p := ⟨w.heap.size + 1 + 1, 1, none⟩) (by simp) (.slice (some ⟨g3, 0, none⟩) (k + 1) cap3)
          have ho4 := ho3.setOther (p := ⟨w.heap.size + 1 + 1, 1, none⟩) (ho3.bk_ne h53 (by decide)) (.slice (some ⟨g3, 0, none⟩) (k + 1) cap3)
          have hb4 := hb3.setCell (p := ⟨w.heap.size + 1 + 1, 1, none⟩) (by simp; omega) (.slice (some ⟨g3, 0, none⟩) (k + 1) cap3)
          go_roundw
          case rel => exact ⟨k + 1, some ⟨g3, 0, none⟩, cap3, by omega, by go_num, h34, h44, h54, by rw [HLS.out, HU2.out]; exact ho4, hb4⟩
          case measure => simp [intOf]; omega
      · have hu : u = 9000 := by rw [← HU.out]; unfold clip; rw [if_neg q1]
        have S0 := Bk.new wr 67 #[.int .i64 x, .int .i64 (9000)]
        have c5 : (wr.alloc (.cells #[.int .i64 x, .int .i64 9000] 67)).cell? ⟨w.heap.size + 1 + 1, 1, none⟩ = some (.slice A' k c') := (h5.alloc _).cell 1
        have hnb := Bk.new (wr.alloc (.cells #[.int .i64 x, .int .i64 (9000)] 67)) 67 #[.int .i64 x, .int .i64 (9000)]
        rw [World.size_alloc] at hnb
        have o3 := (ho.alloc (.cells #[.int .i64 x, .int .i64 (9000)] 67)).alloc (.cells #[.int .i64 x, .int .i64 (9000)] 67)
        have b3 := (h3.alloc (.cells #[.int .i64 x, .int .i64 (9000)] 67)).alloc (.cells #[.int .i64 x, .int .i64 (9000)] 67)
        have b4 := (h4.alloc (.cells #[.int .i64 x, .int .i64 (9000)] 67)).alloc (.cells #[.int .i64 x, .int .i64 (9000)] 67)
        have b5 := (h5.alloc (.cells #[.int .i64 x, .int .i64 (9000)] 67)).alloc (.cells #[.int .i64 x, .int .i64 (9000)] 67)
        have bb := (hb.alloc (by omega) (.cells #[.int .i64 x, .int .i64 (9000)] 67)).alloc (by simp; omega) (.cells #[.int .i64 x, .int .i64 (9000)] 67)
        have hAb : ∀ r, A'.map Addr.block = some r → w.heap.size ≤ r := fun r e => by have := (ho.lt r e).1; omega
        have HU2 := Lib.hid hu
        clear hu
        go_wp2_with (at_builtin; go_must (refine push_stop rfl (.tmp 31) (.tmp 33) rfl (w.heap.size + 3) A' k c' (latr m (ps.take k)) rfl o3 ⟨wr.heap.size + 1, 0, none⟩ 1 x (9000) rfl (hnb.cell 0) (hnb.cell 1) (by omega) (by simp; omega) ?_); intro g3 cap3 v3w ho3 hg3; have h53 := b5.grown hg3 (o3.bk_ne b5 (by decide)); have c53 : v3w.cell? ⟨w.heap.size + 1 + 1, 1, none⟩ = some (.slice A' k c') := h53.cell 1; have f53 := h53.frozen 1)
        have h33 := b3.grown hg3 (o3.bk_ne b3 (by decide))
        have h43 := b4.grown hg3 (o3.bk_ne b4 (by decide))
        have hb3 : Below w.heap.size w v3w := bb.grown hg3 (by simp; omega) hAb
        have h54 := h53.set_ 1 (.slice (some ⟨g3, 0, none⟩) (k + 1) cap3)
        have h34 := h33.far (p := ⟨w.heap.size + 1 + 1, 1, none⟩) (by simp; omega) (.slice (some ⟨g3, 0, none⟩) (k + 1) cap3)
        have h44 := h43.far (p := ⟨w.heap.size + 1 + 1, 1, none⟩) (by simp) (.slice (some ⟨g3, 0, none⟩) (k + 1) cap3)
        have ho4 := ho3.setOther (p := ⟨w.heap.size + 1 + 1, 1, none⟩) (ho3.bk_ne h53 (by decide)) (.slice (some ⟨g3, 0, none⟩) (k + 1) cap3)
        have hb4 := hb3.setCell (p := ⟨w.heap.size + 1 + 1, 1, none⟩) (by simp; omega) (.slice (some ⟨g3, 0, none⟩) (k + 1) cap3)
        go_roundw
        case rel => exact ⟨k + 1, some ⟨g3, 0, none⟩, cap3, by omega, by go_num, h34, h44, h54, by rw [HLS.out, HU2.out]; exact ho4, hb4⟩
        case measure => simp [intOf]; omega
    · have hkn : n = k := by omega
      subst hkn
      have HLX : Hid (latr m (ps.take n) = latr m ps) := Lib.hid (by rw [List.take_of_length_le (by rw [HL.out]; exact Nat.le_refl _)])
      rw [HLX.out] at ho
      have l0 : wr.cell? ⟨w.heap.size + 1 + 1, 0, none⟩ = some (.int .i64 b) := h5.cell 0
      have l1 : wr.cell? ⟨w.heap.size + 1 + 1, 1, none⟩ = some (.slice A' n c') := h5.cell 1
      have f40 := h4.frozen 0
      have f41 := h4.frozen 1
      have c40 := h4.cell 0
      have c41 := h4.cell 1
      have h46 := (h4.set_ 0 (.int .i64 b)).set_ 1 (.slice A' n c')
      have ho5 := (ho.setOther (p := ⟨w.heap.size + 1, 0, none⟩) (ho.bk_ne h4 (by decide)) (.int .i64 b)).setOther (p := ⟨w.heap.size + 1, 1, none⟩) (ho.bk_ne h4 (by decide)) (.slice A' n c')
      have hb5 := (hb.setCell (p := ⟨w.heap.size + 1, 0, none⟩) (by simp) (.int .i64 b)).setCell (p := ⟨w.heap.size + 1, 1, none⟩) (by simp) (.slice A' n c')
      go_wp2
      refine bodyPost_ret (results_pier rfl _ rfl h46) rfl ⟨A', c', rfl, ho5.base (by omega), hb5⟩
end Go.Proofs.Ytaekjnjignlmoaa
