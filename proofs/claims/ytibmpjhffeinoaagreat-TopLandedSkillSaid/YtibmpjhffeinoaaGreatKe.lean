/-
  skill: 'CheckMachine' of a valid machine.
-/
import Derived.Test.YtibmpjhffeinoaaGreatKd
namespace Go.Proofs.YtibmpjhffeinoaaGreat
open Go.RowKit

set_option maxRecDepth 100000 in
set_option maxHeartbeats 1600000 in
theorem fCheck (AP AM AW : Option Addr) (n cP cM cW : Nat) (ps ws : List Bool) (Ms : List (List Int)) (w : World) (hm : Mach w w.heap.size AP AM AW n ps Ms ws) :
    Calls Tryz.prog 168 #[.agg #[.slice AP n cP, .slice AM n cM, .slice AW n cW]] w fun e w' => e = .returned (.int .i64 0) ∧ Below w.heap.size w w' := by
  have hbk := Bk.new w 59 #[.slice AP n cP, .slice AM n cM, .slice AW n cW]
  have hb1 := (Below.refl w.heap.size w).alloc (Nat.le_refl _) (.cells #[.slice AP n cP, .slice AM n cM, .slice AW n cW] 59)
  have hn := cell_new1 (w.alloc (.cells #[.slice AP n cP, .slice AM n cM, .slice AW n cW] 59)) (.int .i64 (n : Int)) 3
  have hbk2 := hbk.alloc (.cells #[.int .i64 (n : Int)] 3)
  have hb2 := hb1.alloc (by simp) (.cells #[.int .i64 (n : Int)] 3)
  rw [World.size_alloc] at hn
  generalize hW : (w.alloc (.cells #[.slice AP n cP, .slice AM n cM, .slice AW n cW] 59)).alloc (.cells #[.int .i64 (n : Int)] 3) = W at *
  have hs : W.heap.size = w.heap.size + 2 := by rw [← hW]; simp
  have c0 : W.cell? ⟨w.heap.size, 0, none⟩ = some (.slice AP n cP) := hbk2.cell 0
  have c1 : W.cell? ⟨w.heap.size, 1, none⟩ = some (.slice AM n cM) := hbk2.cell 1
  have c2 : W.cell? ⟨w.heap.size, 2, none⟩ = some (.slice AW n cW) := hbk2.cell 2
  have hm1 := hm.below hb2
  have hn1 := hm.n1
  have hn14 := hm.n14
  have hlit := (Oj.lit1 W (n : Int)).ri
  have HX : Hid ([(n : Int)].any (outB 1 14) = false) := Lib.hid (by simp [outB]; omega)
  clear hbk hb1 hm
  go_enter Tryz.func168, Tryz.ntmps168
  rw [hs] at hlit
  go_wp2_with fail
  refine (fWithin _ _ _ _ _ _ _ hlit (by omega) _ HX).mono ?_
  rintro e w1 ⟨rfl, hb3, _⟩
  have hb4 : Below W.heap.size W w1 := ((Below.refl W.heap.size W).alloc (Nat.le_refl _) (.cells #[.int .i64 (n : Int)] 3)).trans (hb3.mono (by simp))
  have d0 := (hb4.cell (p := ⟨w.heap.size, 0, none⟩) (by show w.heap.size < _; omega)).trans c0
  have d1 := (hb4.cell (p := ⟨w.heap.size, 1, none⟩) (by show w.heap.size < _; omega)).trans c1
  have d2 := (hb4.cell (p := ⟨w.heap.size, 2, none⟩) (by show w.heap.size < _; omega)).trans c2
  have dn := (hb4.cell (p := ⟨w.heap.size + 1, 0, none⟩) (by show w.heap.size + 1 < _; omega)).trans hn
  have hm2 := hm1.mv.below (hb4.mono (by omega))
  have hs4 := hb4.size
  have HR := Lib.hid hm1.ris
  have hb5 := hb2.trans (hb4.mono (by omega))
  clear hb3 hlit c0 c1 c2 hn hbk2 hm1 hb4 hb2
  go_wp2_with (go_at_call 289; refine (contains_stray _ _ _ _ _ _ _ hm2 (by omega) hn14 (by show w.heap.size + 1 < _; omega) dn HR.out).mono ?_; rintro e w2 ⟨rfl, hb6⟩)
  go_ret
  exact ⟨rfl, hb5.trans (hb6.mono (by omega))⟩
end Go.Proofs.YtibmpjhffeinoaaGreat
