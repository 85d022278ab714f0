/-
  The laws: numbers that came in; 'fine'.
-/
import Derived.Test.YtaekjnjignlmoaaLw1
import Derived.Test.YtaekjnjignlmoaaR1
import Derived.Test.YtaekjnjignlmoaaRowP
import Derived.Test.YtaekjnjignlmoaaLp
namespace Go.Proofs.Ytaekjnjignlmoaa
open Go.RowKit

/-- A slice of uint8 that is read. -/
def Ru (w : World) (B : Nat) (A : Option Addr) (n : Nat) (xs : List Int) : Prop := Rd w B 1 A n (xs.map (Value.int .u8)) ∧ ∀ x ∈ xs, 0 ≤ x ∧ x ≤ 255
section
variable {w w' : World} {B B' n : Nat} {A : Option Addr} {xs : List Int}
theorem Ru.len (h : Ru w B A n xs) : xs.length = n := by have := h.1.1; rw [List.length_map, Nat.mul_one] at this; exact this
theorem Ru.at_ (h : Ru w B A n xs) {k : Nat} (hk : k < n) : ∃ ad x, A = some ad ∧ ad.block < B ∧ w.cell? (ad.add k) = some (.int .u8 x) ∧ 0 ≤ x ∧ x ≤ 255 ∧ Hid (xs[k]? = some x) := by
  obtain ⟨ad, e, hb, hc⟩ := h.1.2 (Nat.lt_of_le_of_lt (Nat.zero_le _) hk)
  have hl : k < xs.length := by rw [h.len]; exact hk
  have hl' : k < (xs.map (Value.int .u8)).length := by rw [List.length_map]; exact hl
  have hbd := h.2 xs[k] (List.getElem_mem hl)
  refine ⟨ad, xs[k], e, hb, ?_, hbd.1, hbd.2, Lib.hid (List.getElem?_eq_getElem hl)⟩
  rw [hc k hl']
  simp
theorem Ru.below (h : Ru w B A n xs) (hb : Below B w w') : Ru w' B A n xs := ⟨h.1.below hb, h.2⟩
theorem Ru.next (h : Ru w B A n xs) (hb : Below B' w w') (hle : B ≤ B') (hle2 : B' ≤ w'.heap.size) : Ru w' w'.heap.size A n xs := ⟨h.1.next hb hle hle2, h.2⟩
end
theorem u8_bd {x : Int} (h : (Lit.int .u8 x).wf = true) : 0 ≤ x ∧ x ≤ 255 := by
  simp [Lit.wf] at h
  have h1 : IntKind.u8.min = 0 := by decide
  have h2 : IntKind.u8.max = 255 := by decide
  omega
theorem u8_lo {x : Int} (h : (Lit.int .u8 x).wf = true) : 0 ≤ x := (u8_bd h).1
theorem u8_hi {x : Int} (h : (Lit.int .u8 x).wf = true) : x ≤ 255 := (u8_bd h).2
theorem Ru.of_row {w : World} {B n : Nat} {A : Option Addr} {xs : List Int} (h : Rd w B 1 A n (xs.map (Value.int .u8))) (hw : ∀ x ∈ xs, (Lit.int .u8 x).wf = true) : Ru w B A n xs := ⟨h, fun x hx => by
  have := hw x hx
  simp [Lit.wf] at this
  have h1 : IntKind.u8.min = 0 := by decide
  have h2 : IntKind.u8.max = 255 := by decide
  omega⟩
theorem u16_bd {x : Int} (h : (Lit.int .u16 x).wf = true) : 0 ≤ x ∧ x ≤ 65535 := by
  simp [Lit.wf] at h
  have h1 : IntKind.u16.min = 0 := by decide
  have h2 : IntKind.u16.max = 65535 := by decide
  omega
theorem u16_lo {x : Int} (h : (Lit.int .u16 x).wf = true) : 0 ≤ x := (u16_bd h).1
theorem u16_hi {x : Int} (h : (Lit.int .u16 x).wf = true) : x ≤ 65535 := (u16_bd h).2
set_option maxHeartbeats 400000 in
theorem aFine (b : Int) (A : Option Addr) (n c : Nat) (ps : List (Int × Int)) (w : World) (hx : Rp w w.heap.size A n ps) (r : Bool) (HR : Hid (decide (n ≤ 14 ∧ checkPier b ps = 0) = r)) :
    Calls Try.prog 45 #[.agg #[.int .i64 b, .slice A n c]] w (RetB w r) := by
  have hbk := Bk.new w 24 #[.int .i64 b, .slice A n c]
  have hc0 : (w.alloc (.cells #[.int .i64 b, .slice A n c] 24)).cell? ⟨w.heap.size, 0, none⟩ = some (.int .i64 b) := hbk.cell 0
  have hc1 : (w.alloc (.cells #[.int .i64 b, .slice A n c] 24)).cell? ⟨w.heap.size, 1, none⟩ = some (.slice A n c) := hbk.cell 1
  have hb0 : Below w.heap.size w (w.alloc (.cells #[.int .i64 b, .slice A n c] 24)) := (Below.refl _ w).alloc (Nat.le_refl _) _
  by_cases hg : 14 < n
  · have HG : Hid (decide (14 < n) = true) := Lib.hid (decide_eq_true hg)
    have HE : Hid (r = false) := Lib.hid (by rw [← HR.out]; exact decide_eq_false (by omega))
    go_enter Try.func45, Try.ntmps45
    go_wp2_with fail
    refine (aGreat b A n c _ true HG).mono ?_
    rintro e w1 ⟨rfl, hb⟩
    go_wp2
    go_ret
    exact ⟨ret_b HE.out.symm, hb0.trans (hb.mono hb0.size)⟩
  · have HG : Hid (decide (14 < n) = false) := Lib.hid (decide_eq_false hg)
    obtain ⟨v, HV⟩ : ∃ v, Hid (checkPier b ps = v) := ⟨_, Lib.hid rfl⟩
    have HE : Hid (r = decide (v = 0)) := Lib.hid (by rw [← HR.out, ← HV.out]; exact decide_eq_decide.2 (by omega))
    go_enter Try.func45, Try.ntmps45
    go_wp2_with fail
    refine (aGreat b A n c _ false HG).mono ?_
    rintro e w1 ⟨rfl, hb⟩
    have hb1 := hb0.trans (hb.mono hb0.size)
    have hk1 := hbk.below hb hbk.lt
    have hx1 := hx.next hb1 (Nat.le_refl _) hb1.size
    clear hb hb0 hbk hc0 hc1
    have hc0 : w1.cell? ⟨w.heap.size, 0, none⟩ = some (.int .i64 b) := hk1.cell 0
    have hc1 : w1.cell? ⟨w.heap.size, 1, none⟩ = some (.slice A n c) := hk1.cell 1
    go_wp2_with fail
    refine (rCheckPier b A n c ps w1 hx1 (by omega) v HV).mono ?_
    rintro e w2 ⟨rfl, hb⟩
    go_wp2
    go_ret
    exact ⟨ret_b (by rw [HE.out]; simp [Bool.beq_eq_decide_eq]; try rfl), hb1.trans (hb.mono hb1.size)⟩
section
variable {H : Type} {enc : TypeId × Value → H} {P : Program} {w : World} {base : Nat} {spare : Nat → Bool} {held : Bool}
open Go.ChangeShapes
theorem trodAll_five {t0 t1 t2 t3 t4 : TypeId} {args : Array Value} {ds : List (DataW H)} {ps : List MemPlace} (h : DataW.TrodAll enc P w base spare held [t0, t1, t2, t3, t4] args.toList ds ps) :
    ∃ v0 d0 p0 v1 d1 p1 v2 d2 p2 v3 d3 p3 v4 d4 p4, args = #[v0, v1, v2, v3, v4] ∧ ds = [d0, d1, d2, d3, d4] ∧ ps = p0 ++ p1 ++ p2 ++ p3 ++ p4 ∧ DataW.Trod enc P w base spare held t0 v0 d0 p0 ∧ DataW.Trod enc P w base spare held t1 v1 d1 p1 ∧ DataW.Trod enc P w base spare held t2 v2 d2 p2 ∧ DataW.Trod enc P w base spare held t3 v3 d3 p3 ∧ DataW.Trod enc P w base spare held t4 v4 d4 p4 := by
  obtain ⟨v0, vs0, d0, ds0, p0, q0, hargs, rfl, rfl, hd0, r0⟩ := trodAll_cons h
  obtain ⟨v1, vs1, d1, ds1, p1, q1, rfl, rfl, rfl, hd1, r1⟩ := trodAll_cons r0
  obtain ⟨v2, vs2, d2, ds2, p2, q2, rfl, rfl, rfl, hd2, r2⟩ := trodAll_cons r1
  obtain ⟨v3, vs3, d3, ds3, p3, q3, rfl, rfl, rfl, hd3, r3⟩ := trodAll_cons r2
  obtain ⟨v4, vs4, d4, ds4, p4, q4, rfl, rfl, rfl, hd4, r4⟩ := trodAll_cons r3
  obtain ⟨rfl, rfl, rfl⟩ := trodAll_nil r4
  exact ⟨v0, d0, p0, v1, d1, p1, v2, d2, p2, v3, d3, p3, v4, d4, p4, by cases args; simp_all, rfl, by simp, hd0, hd1, hd2, hd3, hd4⟩
theorem trodAll_mk5 {t0 t1 t2 t3 t4 : TypeId} {v0 v1 v2 v3 v4 : Value} {d0 d1 d2 d3 d4 : DataW H} {p0 p1 p2 p3 p4 : List MemPlace} (h0 : DataW.Trod enc P w base spare held t0 v0 d0 p0) (h1 : DataW.Trod enc P w base spare held t1 v1 d1 p1)
    (h2 : DataW.Trod enc P w base spare held t2 v2 d2 p2) (h3 : DataW.Trod enc P w base spare held t3 v3 d3 p3) (h4 : DataW.Trod enc P w base spare held t4 v4 d4 p4) : DataW.TrodAll enc P w base spare held [t0, t1, t2, t3, t4] [v0, v1, v2, v3, v4] [d0, d1, d2, d3, d4] (p0 ++ (p1 ++ (p2 ++ (p3 ++ p4)))) := ⟨p0, p1 ++ (p2 ++ (p3 ++ p4)), h0, trodAll_mk4 h1 h2 h3 h4, rfl⟩
end
end Go.Proofs.Ytaekjnjignlmoaa
