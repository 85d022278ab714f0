/-
  skill: 'open', 'Distances' of a valid machine.
-/
import Derived.Test.YtibmpjhffeinoaaGreatKf
import Derived.Laws.CopyOwn
import Derived.Laws.MakeOwn
import Derived.Deep.OwnRows
namespace Go.Proofs.YtibmpjhffeinoaaGreat
open Go.RowKit Go.Shelf

set_option maxRecDepth 100000 in
set_option maxHeartbeats 1600000 in
theorem fOpen (AP AM AW : Option Addr) (n cP cM cW : Nat) (ps ws : List Bool) (Ms : List (List Int)) (w : World) (hm : Mach w w.heap.size AP AM AW n ps Ms ws) :
    Calls Tryz.prog 69 #[.agg #[.slice AP n cP, .slice AM n cM, .slice AW n cW], .slice none 0 0] w fun e w' => ∃ (g K : Nat), e = .returned (.tuple #[.pointer (some ⟨g, 0, none⟩), .int .i64 0]) ∧ w.heap.size ≤ g ∧ BdW w' g AP AM AW n cP cM cW (rounds ps Ms ws n K) ∧ rounds ps Ms ws n (K + 1) = rounds ps Ms ws n K ∧ Below w.heap.size w w' := by
  have hbk := Bk.new w 59 #[.slice AP n cP, .slice AM n cM, .slice AW n cW]
  have hb1 := (Below.refl w.heap.size w).alloc (Nat.le_refl _) (.cells #[.slice AP n cP, .slice AM n cM, .slice AW n cW] 59)
  generalize hW : w.alloc (.cells #[.slice AP n cP, .slice AM n cM, .slice AW n cW] 59) = W at *
  have hs : W.heap.size = w.heap.size + 1 := by rw [← hW]; simp
  have c0 : W.cell? ⟨w.heap.size, 0, none⟩ = some (.slice AP n cP) := hbk.cell 0
  have c1 : W.cell? ⟨w.heap.size, 1, none⟩ = some (.slice AM n cM) := hbk.cell 1
  have c2 : W.cell? ⟨w.heap.size, 2, none⟩ = some (.slice AW n cW) := hbk.cell 2
  have hm1 := hm.next hb1 (Nat.le_refl _) (by omega)
  have hn1 := hm.n1
  have hn14 := hm.n14
  have hw1 : IntKind.i64.wrap ((n : Int) - 1) = (n : Int) - 1 := IntWalk.i64_in _ (by omega)
  go_enter Tryz.func69, Tryz.ntmps69
  have HN : Hid (([] : List Int).any (outB 0 ((n : Int) - 1)) = false) := Lib.hid rfl
  go_wp2_with (go_at_call 168; refine (fCheck _ _ _ _ _ _ _ _ _ _ _ hm1).mono ?_; rintro e w1 ⟨rfl, hb2⟩; have d0 := (hb2.cell (p := ⟨w.heap.size, 0, none⟩) (by show w.heap.size < _; omega)).trans c0; have d1 := (hb2.cell (p := ⟨w.heap.size, 1, none⟩) (by show w.heap.size < _; omega)).trans c1; have d2 := (hb2.cell (p := ⟨w.heap.size, 2, none⟩) (by show w.heap.size < _; omega)).trans c2; have hs2 := hb2.size; have hb3 := hb1.trans (hb2.mono (by omega)); have hm2 := hm.below hb3; clear hb1 hb2 c0 c1 c2 hm1 hbk)
  refine (fWithin _ _ _ _ _ _ _ (Ri.nil_ _) (by omega) _ HN).mono ?_
  rintro e w2 ⟨rfl, hb4, _⟩
  have f0 := (hb4.cell (p := ⟨w.heap.size, 0, none⟩) (by show w.heap.size < _; omega)).trans d0
  have f1 := (hb4.cell (p := ⟨w.heap.size, 1, none⟩) (by show w.heap.size < _; omega)).trans d1
  have f2 := (hb4.cell (p := ⟨w.heap.size, 2, none⟩) (by show w.heap.size < _; omega)).trans d2
  have hs4 := hb4.size
  have hb5 := hb3.trans (hb4.mono (by omega))
  have hm3 := hm.next hb5 (Nat.le_refl _) (by omega)
  clear hb3 hb4 d0 d1 d2 hm2
  go_wp2_with (go_at_call 169; refine (fNew _ _ _ _ _ _ _ _ _ _ _ hm3).mono ?_; rintro e w3 ⟨g, K, rfl, hg, hbd, hfx, hb6⟩; have hb7 := hb5.trans (hb6.mono (by omega)); clear hb5 hb6)
  go_ret2
  exact ⟨g, K, rfl, by omega, hbd, hfx, hb7⟩
theorem run_nums (n : Nat) (hn : n ≤ 1000) (w : World) : (Instr.makeSlice 35 (.int .i64 (n : Int)) (.int .i64 (n : Int))).run Tryz.prog w = .ok (.slice (some ⟨w.heap.size, 0, none⟩) n n) (w.alloc (.cells (Array.replicate n (Value.int .i64 0)) 3)) := by
  rw [run_make_row' 35 3 (.int .i64 0) 8 under_nums info_num rfl .i64 .i64 n (by omega) (by omega) w]
  have : madeCells #[Value.int .i64 0] n = (List.replicate n (Value.int .i64 0)).toArray := by
    apply Array.ext
    · simp [madeCells]
    · intro i h1 h2
      simp [madeCells, Nat.mod_one]
  rw [this, List.toArray_replicate]
theorem size_num : (Tryz.prog.info? 3).map (·.size) = some 1 := by kernel_rfl
theorem Bk.ri {w : World} {g n : Nat} {xs : List Int} {t : TypeId} (h : Bk w g t (ints xs).toArray) (hl : xs.length = n) : Ri w w.heap.size (some ⟨g, 0, none⟩) n xs := by
  refine ⟨by rw [ints_length, hl, Nat.mul_one], fun _ => ⟨_, rfl, h.lt, fun j hj => ?_⟩⟩
  rw [add_lit0, h.cell]
  simp
theorem copy_far {w : World} {g n cP cM cW : Nat} {AP AM AW : Option Addr} {fs : List Int} (hb : BdW w g AP AM AW n cP cM cW fs) (hn : n ≤ 14) :
    ∃ w', (Builtin.copy_ #[35, 35] 3 #[.slice (some ⟨w.heap.size, 0, none⟩) n n, .slice (some ⟨g, 3, none⟩) 14 14]).run Tryz.prog (w.alloc (.cells (Array.replicate n (Value.int .i64 0)) 3)) = .ok (.int .i64 (n : Int)) w' ∧ Bk w' w.heap.size 3 (ints (fs.take n)).toArray ∧ Below w.heap.size w w' := by
  have hl := hb.len
  have hlen : (ints (fs.take n)).length = n := by rw [ints_length, List.length_take]; omega
  have hbk := Bk.new w 3 (Array.replicate n (Value.int .i64 0))
  have hba : BdW (w.alloc (.cells (Array.replicate n (Value.int .i64 0)) 3)) g AP AM AW n cP cM cW fs := ⟨hb.bk.alloc _, hl⟩
  have hrun := run_copy_row (P := Tryz.prog) (w.alloc (.cells (Array.replicate n (Value.int .i64 0)) 3)) 35 35 3 3 w.heap.size 0 n n ⟨g, 3, none⟩ 14 14 (Array.replicate n (Value.int .i64 0)) 3 (ints (fs.take n)) under_nums size_num hbk
    (by rw [hlen]; exact (Nat.min_eq_right hn).symm)
    (fun j v hj => by
      have hjl := (List.getElem?_eq_some_iff.1 hj).1
      rw [hlen] at hjl
      have h1 := hba.cf (i := j) (by omega)
      have e : (⟨g, 3, none⟩ : Addr).add j = ⟨g, 3 + j, none⟩ := by
        cases j with
        | zero => rfl
        | succ k => rw [add_succ, show 3 + (k + 1) = 3 + 1 + k from by omega]
      rw [e, h1]
      rw [ints, List.getElem?_map, List.getElem?_take, if_pos hjl, List.getElem?_eq_getElem (by omega)] at hj
      simp only [Option.map_some] at hj
      rw [← hj]
      simp [nth, List.getElem?_eq_getElem (show j < fs.length by omega)])
    (by rw [hlen]; simp) (fun v hv => by obtain ⟨x, _, rfl⟩ := List.mem_map.1 hv; rfl)
  simp only [hlen] at hrun
  have e : ((Array.replicate n (Value.int .i64 0)).toList.take 0 ++ ints (fs.take n) ++ (Array.replicate n (Value.int .i64 0)).toList.drop (0 + n)).toArray = (ints (fs.take n)).toArray := by simp
  rw [e] at hrun
  refine ⟨_, hrun, ?_, ?_⟩
  · exact setRow_heap _ w.heap.size _ _ _ _ hbk
  · exact below_setRow ((Below.refl w.heap.size w).alloc (Nat.le_refl _) _) (Nat.le_refl _) _
set_option maxRecDepth 100000 in
set_option maxHeartbeats 1600000 in
theorem fDist (AP AM AW : Option Addr) (n cP cM cW : Nat) (ps ws : List Bool) (Ms : List (List Int)) (w : World) (hm : Mach w w.heap.size AP AM AW n ps Ms ws) :
    Calls Tryz.prog 28 #[.agg #[.slice AP n cP, .slice AM n cM, .slice AW n cW]] w fun e w' => ∃ (q K : Nat), e = .returned (.tuple #[.slice (some ⟨q, 0, none⟩) n n, .int .i64 0]) ∧ w.heap.size ≤ q ∧ Ri w' w'.heap.size (some ⟨q, 0, none⟩) n ((rounds ps Ms ws n K).take n) ∧ rounds ps Ms ws n (K + 1) = rounds ps Ms ws n K ∧ Below w.heap.size w w' := by
  have hbk := Bk.new w 59 #[.slice AP n cP, .slice AM n cM, .slice AW n cW]
  have hb1 := (Below.refl w.heap.size w).alloc (Nat.le_refl _) (.cells #[.slice AP n cP, .slice AM n cM, .slice AW n cW] 59)
  generalize hW : w.alloc (.cells #[.slice AP n cP, .slice AM n cM, .slice AW n cW] 59) = W at *
  have hs : W.heap.size = w.heap.size + 1 := by rw [← hW]; simp
  have c0 : W.cell? ⟨w.heap.size, 0, none⟩ = some (.slice AP n cP) := hbk.cell 0
  have c1 : W.cell? ⟨w.heap.size, 1, none⟩ = some (.slice AM n cM) := hbk.cell 1
  have c2 : W.cell? ⟨w.heap.size, 2, none⟩ = some (.slice AW n cW) := hbk.cell 2
  have hm1 := hm.next hb1 (Nat.le_refl _) (by omega)
  have hn1 := hm.n1
  have hn14 := hm.n14
  have hmk := run_nums n (by omega)
  go_enter Tryz.func28, Tryz.ntmps28
  go_wp2_with (go_at_call 69; refine (fOpen _ _ _ _ _ _ _ _ _ _ _ hm1).mono ?_; rintro e w1 ⟨g, K, rfl, hg, hbd, hfx, hb2⟩; have d1 := (hb2.cell (p := ⟨w.heap.size, 1, none⟩) (by show w.heap.size < _; omega)).trans c1; have hs2 := hb2.size; have hb3 := hb1.trans (hb2.mono (by omega)); obtain ⟨w2, hcp, hbk2, hb4⟩ := copy_far hbd hn14; have hb5 := hb3.trans (hb4.mono (by omega)); clear hb1 hb2 c0 c1 c2 hm1 hbk)
  go_ret2
  exact ⟨w1.heap.size, K, rfl, by omega, hbk2.ri (by rw [List.length_take, rounds_len]; omega), hfx, hb5⟩
end Go.Proofs.YtibmpjhffeinoaaGreat
