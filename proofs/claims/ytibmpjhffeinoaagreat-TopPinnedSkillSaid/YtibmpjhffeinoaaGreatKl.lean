/-
  TopPinnedSkill: every board, every level, every slot.
-/
import Derived.Test.YtibmpjhffeinoaaGreatKi
import Derived.Test.YtibmpjhffeinoaaGreatKj
import Derived.Test.YtibmpjhffeinoaaGreatKr
import Derived.Test.YtibmpjhffeinoaaGreatPl1
import Derived.Test.YtibmpjhffeinoaaGreatPl2
import Derived.Test.YtibmpjhffeinoaaGreatPl3
namespace Go.Proofs.YtibmpjhffeinoaaGreat
open Go.RowKit Go.Shelf

/-! ### Plain: the falls that come to a slot -/
def sW (f X : Nat → Int) : Nat → Int
  | 0 => 0
  | m + 1 => sW f X m + f m * X m
theorem sW_congr {f X Y : Nat → Int} (h : ∀ k, X k = Y k) (m : Nat) : sW f X m = sW f Y m := by
  induction m with
  | zero => rfl
  | succ m ih => show sW f X m + f m * X m = sW f Y m + f m * Y m; rw [ih, h]
theorem sW_step (p : Nat → Nat → Int) (l : Int) (r : Nat) (X : Nat → Int) (m : Nat) : sW (Kx.Nf p l (r + 1)) X (m + 1) = sW (Kx.Nf p l r) (fun k => (10 - Kx.Rq p l r k) * X k + Kx.Rq p l r k * X (k + 1)) m + Kx.Nf p l r m * (10 - Kx.Rq p l r m) * X m := by
  induction m with
  | zero => rfl
  | succ m ih =>
    show sW (Kx.Nf p l (r + 1)) X (m + 1) + (Kx.Nf p l r m * Kx.Rq p l r m + Kx.Nf p l r (m + 1) * (10 - Kx.Rq p l r (m + 1))) * X (m + 1) = sW (Kx.Nf p l r) (fun k => (10 - Kx.Rq p l r k) * X k + Kx.Rq p l r k * X (k + 1)) m + Kx.Nf p l r m * ((10 - Kx.Rq p l r m) * X m + Kx.Rq p l r m * X (m + 1)) + Kx.Nf p l r (m + 1) * (10 - Kx.Rq p l r (m + 1)) * X (m + 1)
    rw [ih, Int.add_mul, Int.mul_add, ← Int.mul_assoc, ← Int.mul_assoc]
    omega
theorem sW_pick (f : Nat → Int) (s m : Nat) : sW f (fun k => if k = s then 1 else 0) m = if s < m then f s else 0 := by
  induction m with
  | zero => rfl
  | succ m ih =>
    show sW f (fun k => if k = s then 1 else 0) m + f m * (if m = s then 1 else 0) = _
    rw [ih]
    by_cases h : m = s
    · subst h
      rw [if_neg (Nat.lt_irrefl m), if_pos rfl, if_pos (by omega)]
      omega
    · rw [if_neg h]
      by_cases h2 : s < m
      · rw [if_pos h2, if_pos (by omega)]; omega
      · rw [if_neg h2, if_neg (by omega)]; omega
theorem Nf_Bv (p : Nat → Nat → Int) (l : Int) (n s : Nat) (hs : s ≤ n) : Kx.Nf p l n s = Bv (Kx.Rq p l) n s 0 0 := by
  have key : ∀ d, d ≤ n → sW (Kx.Nf p l (n - d)) (Bd (Kx.Rq p l) n s d) (n - d + 1) = Kx.Nf p l n s := fun d => by
    induction d with
    | zero =>
      intro _
      rw [show n - 0 = n from rfl, show Bd (Kx.Rq p l) n s 0 = fun k => if k = s then 1 else 0 from rfl, sW_pick, if_pos (by omega)]
    | succ d ih =>
      intro hd
      rw [← ih (by omega), show n - d = n - (d + 1) + 1 from by omega, sW_step, Kx.Nf_zero p l (n - (d + 1)) (n - (d + 1) + 1) (by omega), Int.zero_mul, Int.zero_mul, Int.add_zero]
      exact sW_congr (fun k => rfl) _
  have h := key n (Nat.le_refl n)
  rw [Nat.sub_self] at h
  rw [← h]
  show 0 + (1 : Int) * Bd (Kx.Rq p l) n s n 0 = Bd (Kx.Rq p l) n s n 0
  omega
/-! ### The calls of the law -/
section
variable {w : World} {n : Nat} {A A' : Addr} {As : Nat → Addr} {c c' : Nat} {cs : Nat → Nat} {p : Nat → Nat → Int} {y : Nat → Int}
theorem cs_of (hw : Kx.YesFn Tryz.prog 11) (hb : Kx.BrdN w n A A' As c c' cs p y) (hp : ∀ r k, r < n → k ≤ r → 0 ≤ p r k ∧ p r k ≤ 10) (hy : ∀ i, i < n + 1 → 0 ≤ y i ∧ y i ≤ 500) (l : Int) (hl : -5 ≤ l ∧ l ≤ 5) (h1 : 1 ≤ n) (h3 : n ≤ 3) (s : Nat) (hs : s ≤ n) :
    Cs w (.agg #[.slice (some A) n c, .slice (some A') (n + 1) c']) n l (s : Int) ((List.range (n + 1)).map (Kx.Nf p l n)) (Bv (Kx.Rq p l) n s) (Kx.Rq p l) := by
  refine ⟨fun w' hb' => ?_, fun w' hb' => ?_, fun w' hb' => ?_, fun w' hb' r k hr hk => fRight (brd_below hb hb') hr hk (by omega) l hl (hp r k hr hk), fun w' => CallsIn.calls (hw.2 0 w') fun k => room_wide k⟩
  · have hbn := brd_below hb hb'
    rcases (show n = 1 ∨ n = 2 ∨ n = 3 by omega) with rfl | rfl | rfl
    · exact Kx.S1.chk hp hl hy hbn
    · exact Kx.S2.chk hp hl hy hbn
    · exact Kx.S3.chk hp hl hy hbn
  · have hbn := brd_below hb hb'
    have key : Calls Tryz.prog 18 #[.agg #[.slice (some A) n c, .slice (some A') (n + 1) c'], .int .i64 l] w' fun e w'' => ∃ A2, e = .returned (.tuple #[.slice A2 (n + 1) (n + 1), .int .i64 0]) ∧ Kx.bRow w'' A2 (n + 1) (Kx.Nf p l n) ∧ Below w'.heap.size w' w'' := by
      rcases (show n = 1 ∨ n = 2 ∨ n = 3 by omega) with rfl | rfl | rfl
      · exact Kx.S1.fin hp hl hy hbn
      · exact Kx.S2.fin hp hl hy hbn
      · exact Kx.S3.fin hp hl hy hbn
    refine key.mono fun e w'' h => ?_
    obtain ⟨A2, e1, e2, e3⟩ := h
    exact ⟨A2, e1, brow_ri e2, e3⟩
  · have hbn := brd_below hb hb'
    have key : Calls Tryz.prog 19 #[.agg #[.slice (some A) n c, .slice (some A') (n + 1) c'], .int .i64 l, .int .i64 (s : Int)] w' fun e w'' => ∃ A2, e = .returned (.tuple #[.slice A2 n n, .int .i64 0]) ∧ Kx.bRows w'' A2 n (fun r k => Bv (Kx.Rq p l) n s r k) ∧ Below w'.heap.size w' w'' := by
      rcases (show n = 1 ∨ n = 2 ∨ n = 3 by omega) with rfl | rfl | rfl
      · rcases (show s = 0 ∨ s = 1 by omega) with rfl | rfl
        · exact Kx.B1_0.fin hp hl hy hbn
        · exact Kx.B1_1.fin hp hl hy hbn
      · rcases (show s = 0 ∨ s = 1 ∨ s = 2 by omega) with rfl | rfl | rfl
        · exact Kx.B2_0.fin hp hl hy hbn
        · exact Kx.B2_1.fin hp hl hy hbn
        · exact Kx.B2_2.fin hp hl hy hbn
      · rcases (show s = 0 ∨ s = 1 ∨ s = 2 ∨ s = 3 by omega) with rfl | rfl | rfl | rfl
        · exact Kx.B3_0.fin hp hl hy hbn
        · exact Kx.B3_1.fin hp hl hy hbn
        · exact Kx.B3_2.fin hp hl hy hbn
        · exact Kx.B3_3.fin hp hl hy hbn
    refine key.mono fun e w'' h => ?_
    obtain ⟨A2, e1, e2, e3⟩ := h
    exact ⟨A2, e1, brows_mv e2, e3⟩
/-- A valid board. -/
theorem pinned_valid (hw : Kx.YesFn Tryz.prog 11) (hb : Kx.BrdN w n A A' As c c' cs p y) (hp : ∀ r k, r < n → k ≤ r → 0 ≤ p r k ∧ p r k ≤ 10) (hy : ∀ i, i < n + 1 → 0 ≤ y i ∧ y i ≤ 500) (h1 : 1 ≤ n) (h3 : n ≤ 3) (x1 x2 : Int) (hx1 : 0 ≤ x1 ∧ x1 ≤ 255) (hx2 : 0 ≤ x2 ∧ x2 ≤ 255) :
    Calls Tryz.prog 4 #[.agg #[.slice (some A) n c, .slice (some A') (n + 1) c'], .int .u8 x1, .int .u8 x2] w fun e w' => e = .returned (.bool true) ∧ Below w.heap.size w w' := by
  obtain ⟨s, hs, hsx⟩ : ∃ s : Nat, s ≤ n ∧ (s : Int) = x2 % ((n : Int) + 1) := by
    have h0 : 0 ≤ x2 % ((n : Int) + 1) := Int.emod_nonneg _ (by omega)
    have h2 : x2 % ((n : Int) + 1) < (n : Int) + 1 := Int.emod_lt_of_pos _ (by omega)
    exact ⟨(x2 % ((n : Int) + 1)).toNat, by omega, by omega⟩
  have hR := Kx.Rq_b p (x1 % 11 - 5)
  refine fPinned (some A) (some A') c (n + 1) c' n x1 x2 _ (Bv (Kx.Rq p (x1 % 11 - 5)) n s) (Kx.Rq p (x1 % 11 - 5)) w h1 h3 hx1 hx2 (x1 % 11 - 5) (s : Int) rfl hsx (cs_of hw hb hp hy (x1 % 11 - 5) (by omega) h1 h3 s hs) hR (fun sn e => ?_) (fun sn Ls K e hF hf r k hr hk => ?_) (fun sn Ls K e hF hf r k hr hk => ?_) (Bv_0 hR)
  · obtain rfl : s = sn := by omega
    rw [List.getElem?_map, List.getElem?_range (by omega), Option.map_some, Nf_Bv p _ n s hs]
  · obtain rfl : s = sn := by omega
    exact Bv_D hR h3 hs K hF hf r k hr hk
  · obtain rfl : s = sn := by omega
    exact Bv_E hR h3 hs K hF hf r k hr hk
end
end Go.Proofs.YtibmpjhffeinoaaGreat
