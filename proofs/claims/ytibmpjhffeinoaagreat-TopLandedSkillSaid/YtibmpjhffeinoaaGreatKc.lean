/-
  skill: a machine in memory; 'wins'.
-/
import Derived.Test.YtibmpjhffeinoaaGreatKb
namespace Go.Proofs.YtibmpjhffeinoaaGreat
open Go.RowKit

/-- A list of bools that is read. -/
def Rb (w : World) (B : Nat) (A : Option Addr) (n : Nat) (bs : List Bool) : Prop := bs.length = n ∧ ∀ i b, bs[i]? = some b → ∃ ad, A = some ad ∧ ad.block < B ∧ w.cell? (ad.add i) = some (.bool b)
/-- Rows of ints that are read. -/
def Mv (w : World) (B : Nat) (A : Option Addr) (n : Nat) (Ls : List (List Int)) : Prop := Ls.length = n ∧ ∀ i L, Ls[i]? = some L → ∃ ad A' c', A = some ad ∧ ad.block < B ∧ w.cell? (ad.add i) = some (.slice A' L.length c') ∧ L.length ≤ c' ∧ Ri w B A' L.length L
section
variable {w w' : World} {B B' n : Nat} {A : Option Addr} {bs : List Bool} {Ls : List (List Int)}
theorem Rb.below (h : Rb w B A n bs) (hb : Below B w w') : Rb w' B A n bs := ⟨h.1, fun i b hi => by
  obtain ⟨ad, e, h1, h2⟩ := h.2 i b hi
  exact ⟨ad, e, h1, (hb.cell (by rw [addr_block]; exact h1)).trans h2⟩⟩
theorem Rb.more (h : Rb w B A n bs) (hB : B ≤ B') : Rb w B' A n bs := ⟨h.1, fun i b hi => by
  obtain ⟨ad, e, h1, h2⟩ := h.2 i b hi
  exact ⟨ad, e, by omega, h2⟩⟩
theorem Mv.below (h : Mv w B A n Ls) (hb : Below B w w') : Mv w' B A n Ls := ⟨h.1, fun i L hi => by
  obtain ⟨ad, A', c', e, h1, h2, h3, h4⟩ := h.2 i L hi
  exact ⟨ad, A', c', e, h1, (hb.cell (by rw [addr_block]; exact h1)).trans h2, h3, h4.below hb⟩⟩
theorem Mv.more (h : Mv w B A n Ls) (hB : B ≤ B') : Mv w B' A n Ls := ⟨h.1, fun i L hi => by
  obtain ⟨ad, A', c', e, h1, h2, h3, h4⟩ := h.2 i L hi
  exact ⟨ad, A', c', e, by omega, h2, h3, h4.more hB⟩⟩
end
/-- Places that are strictly increasing, from one on, below another one. -/
def risB (n : Int) : Int → List Int → Bool
  | _, [] => true
  | m, x :: xs => decide (m ≤ x) && decide (x < n) && risB n (x + 1) xs
theorem ris_places {n : Int} (hn : n ≤ 14) : ∀ {m : Int} {xs : List Int}, 0 ≤ m → risB n m xs = true → ∀ x ∈ xs, 0 ≤ x ∧ x < n
  | _, [], _, _, x, hx => by cases hx
  | m, y :: xs, hm, h, x, hx => by
    simp only [risB, Bool.and_eq_true, decide_eq_true_eq] at h
    cases hx with
    | head => omega
    | tail _ hx => exact ris_places hn (by omega) h.2 x hx
/-- A valid machine in memory, below block B. -/
structure Mach (w : World) (B : Nat) (AP AM AW : Option Addr) (n : Nat) (ps : List Bool) (Ms : List (List Int)) (ws : List Bool) : Prop where
  rp : Rb w B AP n ps
  mv : Mv w B AM n Ms
  rw_ : Rb w B AW n ws
  n1 : 1 ≤ n
  n14 : n ≤ 14
  ris : ∀ L ∈ Ms, risB n 0 L = true
section
variable {w w' : World} {B B' n : Nat} {AP AM AW : Option Addr} {ps ws : List Bool} {Ms : List (List Int)}
theorem Mach.below (h : Mach w B AP AM AW n ps Ms ws) (hb : Below B w w') : Mach w' B AP AM AW n ps Ms ws := ⟨h.rp.below hb, h.mv.below hb, h.rw_.below hb, h.n1, h.n14, h.ris⟩
theorem Mach.more (h : Mach w B AP AM AW n ps Ms ws) (hB : B ≤ B') : Mach w B' AP AM AW n ps Ms ws := ⟨h.rp.more hB, h.mv.more hB, h.rw_.more hB, h.n1, h.n14, h.ris⟩
theorem Mach.next (h : Mach w B AP AM AW n ps Ms ws) (hb : Below B' w w') (hle : B ≤ B') (hle2 : B' ≤ w'.heap.size) : Mach w' w'.heap.size AP AM AW n ps Ms ws := (h.below (hb.mono hle)).more (Nat.le_trans hle hle2)
theorem Mach.at_ (h : Mach w B AP AM AW n ps Ms ws) {i : Nat} (hi : i < n) : ∃ (a1 a2 a3 : Addr) (p wn : Bool) (L : List Int) (A' : Option Addr) (c' : Nat), AP = some a1 ∧ AM = some a2 ∧ AW = some a3 ∧ w.cell? (a1.add i) = some (.bool p) ∧ w.cell? (a2.add i) = some (.slice A' L.length c') ∧ w.cell? (a3.add i) = some (.bool wn) ∧
    L.length ≤ c' ∧ Ri w B A' L.length L ∧ Hid (ps[i]? = some p) ∧ Hid (Ms[i]? = some L) ∧ Hid (ws[i]? = some wn) ∧ Hid (Places L) ∧ L.length ≤ 14 := by
  have l1 := h.rp.1
  have l2 := h.mv.1
  have l3 := h.rw_.1
  obtain ⟨a1, e1, _, c1⟩ := h.rp.2 i ps[i] (List.getElem?_eq_getElem (by omega))
  obtain ⟨a2, A', c', e2, _, c2, hc, hr⟩ := h.mv.2 i Ms[i] (List.getElem?_eq_getElem (by omega))
  obtain ⟨a3, e3, _, c3⟩ := h.rw_.2 i ws[i] (List.getElem?_eq_getElem (by omega))
  have hris := h.ris Ms[i] (List.getElem_mem (by omega))
  have h14 := h.n14
  have hpl := ris_places (n := (n : Int)) (by omega) (Int.le_refl 0) hris
  have hlen : ∀ (xs : List Int) (m : Int), risB n m xs = true → m + xs.length ≤ n ∨ xs = [] := fun xs => by
    induction xs with
    | nil => intro m _; exact .inr rfl
    | cons y ys ih =>
      intro m hm
      simp only [risB, Bool.and_eq_true, decide_eq_true_eq] at hm
      refine .inl ?_
      simp only [List.length_cons]
      rcases ih (y + 1) hm.2 with h2 | h2
      · omega
      · subst h2; simp; omega
  refine ⟨a1, a2, a3, ps[i], ws[i], Ms[i], A', c', e1, e2, e3, c1, c2, c3, hc, hr, Lib.hid (List.getElem?_eq_getElem (by omega)), Lib.hid (List.getElem?_eq_getElem (by omega)), Lib.hid (List.getElem?_eq_getElem (by omega)), Lib.hid (fun x hx => by have := hpl x hx; omega), ?_⟩
  rcases hlen _ _ hris with h2 | h2
  · omega
  · rw [h2]; simp
end
/-- The cells of a board. -/
def bdCells (AP AM AW : Option Addr) (n cP cM cW : Nat) (fs : List Int) : Array Value := (.slice AP n cP :: .slice AM n cM :: .slice AW n cW :: ints fs).toArray
/-- A board, in block g, with its distances. -/
structure BdW (w : World) (g : Nat) (AP AM AW : Option Addr) (n cP cM cW : Nat) (fs : List Int) : Prop where
  bk : Bk w g 135 (bdCells AP AM AW n cP cM cW fs)
  len : fs.length = 14
section
variable {w w' : World} {g B n cP cM cW : Nat} {AP AM AW : Option Addr} {fs : List Int}
theorem BdW.below (h : BdW w g AP AM AW n cP cM cW fs) (hb : Below B w w') (hg : g < B) : BdW w' g AP AM AW n cP cM cW fs := ⟨h.bk.below hb hg, h.len⟩
theorem BdW.c0 (h : BdW w g AP AM AW n cP cM cW fs) : w.cell? ⟨g, 0, none⟩ = some (.slice AP n cP) := h.bk.cell 0
theorem BdW.c1 (h : BdW w g AP AM AW n cP cM cW fs) : w.cell? ⟨g, 1, none⟩ = some (.slice AM n cM) := h.bk.cell 1
theorem BdW.c2 (h : BdW w g AP AM AW n cP cM cW fs) : w.cell? ⟨g, 2, none⟩ = some (.slice AW n cW) := h.bk.cell 2
end
/-- The player comes from a position to good ones, whatever is answered. -/
def winB (ps : List Bool) (Ms : List (List Int)) (fs : List Int) (i : Nat) : Bool := match ps[i]?.getD false with
  | true => (Ms[i]?.getD []).any (gd fs)
  | false => decide (0 < (Ms[i]?.getD []).length) && !(Ms[i]?.getD []).any (fun x => !gd fs x)

set_option maxRecDepth 100000 in
set_option maxHeartbeats 1600000 in
theorem fWins (i g q : Nat) (AP AM AW : Option Addr) (n cP cM cW : Nat) (ps ws : List Bool) (Ms : List (List Int)) (fs gs : List Int) (w : World) (hm : Mach w w.heap.size AP AM AW n ps Ms ws) (hb : BdW w g AP AM AW n cP cM cW gs) (hf : Fa w q fs) (hi : i < n) (r : Bool) (HR : Hid (winB ps Ms fs i = r)) :
    Calls Tryz.prog 76 #[.pointer (some ⟨g, 0, none⟩), .int .i64 (i : Int), .func (.func 291) #[] #[.pointer (some ⟨q, 0, none⟩)]] w fun e w' => e = .returned (.bool r) ∧ Below w.heap.size w w' := by
  have hB0 := (Below.refl w.heap.size w).alloc (Nat.le_refl _) (.cells #[.func (.func 291) #[] #[.pointer (some ⟨q, 0, none⟩)]] 138)
  have hpf := cell_new1 w (.func (.func 291) #[] #[.pointer (some ⟨q, 0, none⟩)]) 138
  have hm1 := hm.below hB0
  have hb1 := hb.below hB0 hb.bk.lt
  have hf1 := hf.alloc (.cells #[.func (.func 291) #[] #[.pointer (some ⟨q, 0, none⟩)]] 138)
  obtain ⟨a1, a2, a3, p, wn, L, A', c', rfl, rfl, rfl, k1, k2, k3, hc, hri, HP, HM, HW, HPL, hL⟩ := hm1.at_ hi
  have b0 := hb1.c0
  have b1 := hb1.c1
  have hn14 := hm.n14
  have hwi : IntKind.i64.wrap (i : Int) = (i : Int) := IntWalk.i64_in _ (by omega)
  have HB := Lib.hid hB0
  clear hB0 hm hm1 hb hb1 hf k3
  cases p
  · cases L with
    | nil =>
      have HX : Hid (r = false) := Lib.hid (by rw [← HR.out]; unfold winB; rw [HP.out, HM.out]; rfl)
      rw [HX.out]
      go_enter Tryz.func76, Tryz.ntmps76
      go_wp2
      go_ret
      exact ⟨rfl, HB.out⟩
    | cons x L =>
      have HX : Hid ((x :: L).any (fun x => !gd fs x) = !r) := Lib.hid (by rw [← HR.out]; unfold winB; rw [HP.out, HM.out]; simp)
      obtain ⟨m, hmm⟩ : ∃ m, (x :: L).length = m := ⟨_, rfl⟩
      have hm0 : 0 < m := by rw [← hmm]; simp
      rw [hmm] at k2 hc hri hL
      generalize x :: L = xs at *
      clear hmm
      go_enter Tryz.func76, Tryz.ntmps76
      go_wp2_with (go_at_call 156; refine (contains_bad _ _ _ _ _ _ _ _ _ hf1 hpf hri (by omega) HPL.out _ HX).mono ?_; rintro e w' ⟨rfl, rfl⟩)
      go_ret
      exact ⟨ret_b (by simp), HB.out⟩
  · have HX : Hid (L.any (gd fs) = r) := Lib.hid (by rw [← HR.out]; unfold winB; rw [HP.out, HM.out]; rfl)
    generalize L.length = m at *
    go_enter Tryz.func76, Tryz.ntmps76
    go_wp2
    refine wp_region_still_tail 9 (by kernel_rfl) (by kernel_rfl) ?_
    simp only [List.take_succ_cons, List.take_zero, List.drop_succ_cons, List.drop_zero]
    generalize w.alloc (.cells #[.func (.func 291) #[] #[.pointer (some ⟨q, 0, none⟩)]] 138) = W at *
    change wpStill _ _ W.drew _ _ _
    have d1 : W.drew.cell? ⟨g, 1, none⟩ = some (.slice (some a2) n cM) := b1
    have d2 : W.drew.cell? (a2.add i) = some (.slice A' m c') := k2
    have d3 : W.drew.cell? ⟨w.heap.size, 0, none⟩ = some (.func (.func 291) #[] #[.pointer (some ⟨q, 0, none⟩)]) := hpf
    have hf2 : Fa W.drew q fs := hf1
    have hri2 : Ri W.drew w.heap.size A' m L := hri
    iterate 9 still_step
    refine wpStill_nil ?_
    go_wp2_with (go_at_call 156; refine (contains_near _ _ _ _ _ _ _ _ hf2 hri2 (by omega) HPL.out _ HX).mono ?_; rintro e w' ⟨rfl, rfl⟩)
    go_ret
    exact ⟨rfl, below_drewN HB.out 1⟩
end Go.Proofs.YtibmpjhffeinoaaGreat
