import Derived.RangeFuncNested
import Derived.RangeFuncBound
import Derived.RangeFuncCalls
import Derived.RangeFuncLeaves
import Derived.Shelf.Abstract
import Derived.Shelf.RegionOpen
import Derived.WalkKit
import Derived.OwnWalkIn
import Derived.TacticsInMore
import Derived.LoopNIn
import Derived.LoopIn
import Derived.Test.YtkeiajncmhkdmaaLA
namespace Go.Proofs.Ytkeiajncmhkdmaa
open Go.RowKit Go.Shelf
attribute [local go_sem] Oper.semAt_some

/-- The free places from a on, below b. -/
abbrev Free (L : List Int) := { x : Nat // x < 8 ∧ (x : Int) ∉ L }
def yl (L : List Int) (a : Nat) : Nat → List (Free L)
  | 0 => []
  | b + 1 => if h : b < 8 ∧ (b : Int) ∉ L then (if a ≤ b then yl L a b ++ [⟨b, h⟩] else yl L a b) else yl L a b
theorem yl_le (L : List Int) (a : Nat) : ∀ b, (yl L a b).length ≤ b := by
  intro b
  induction b with
  | zero => simp [yl]
  | succ b ih =>
    unfold yl
    split
    · split
      · rw [List.length_append, List.length_singleton]; omega
      · omega
    · omega
theorem yl_start (L : List Int) (a : Nat) : ∀ b, b ≤ a → yl L a b = [] := by
  intro b
  induction b with
  | zero => intro _; rfl
  | succ b ih =>
    intro h
    have h1 := ih (by omega)
    unfold yl
    split
    · rw [if_neg (by omega), h1]
    · exact h1
theorem yl_yes {L : List Int} {a b : Nat} (h8 : b < 8) (h1 : a ≤ b) (h2 : (b : Int) ∉ L) : yl L a (b + 1) = yl L a b ++ [⟨b, h8, h2⟩] := by
  rw [yl, dif_pos ⟨h8, h2⟩, if_pos h1]
theorem yl_no {L : List Int} {a b : Nat} (h2 : (b : Int) ∈ L) : yl L a (b + 1) = yl L a b := by
  rw [yl, dif_neg (fun h => h.2 h2)]
theorem yl_nil {L : List Int} {a : Nat} : ∀ b, b ≤ 8 → yl L a b = [] → ∀ j, a ≤ j → j < b → (j : Int) ∈ L := by
  intro b
  induction b with
  | zero => intro _ _ j _ h; omega
  | succ b ih =>
    intro h8 h j hj hb
    by_cases hm : (b : Int) ∈ L
    · rw [yl_no hm] at h
      rcases Nat.lt_or_ge j b with hlt | hge
      · exact ih (by omega) h j hj hlt
      · obtain rfl : j = b := by omega
        exact hm
    · rw [yl_yes (by omega) (by omega) hm] at h
      simp at h
theorem slid1_first {L : List Int} {b k : Nat} (hkb : k < b) (hk : (k : Int) ∉ L) : ∀ (d a : Nat), k - a = d → a ≤ k → (∀ j : Nat, a ≤ j → j < k → (j : Int) ∈ L) → slid1 (b : Int) L (a : Int) = k := by
  intro d
  induction d with
  | zero =>
    intro a h1 h2 _
    obtain rfl : a = k := by omega
    exact slid1_stop (fun h => hk h.2)
  | succ d ih =>
    intro a h1 h2 h3
    rw [slid1_go ⟨by omega, h3 a (Nat.le_refl _) (by omega)⟩]
    exact ih (a + 1) (by omega) (by omega) (fun j hj hk => h3 j (by omega) hk)
theorem slid1_none {L : List Int} {b : Nat} : ∀ (d a : Nat), b - a = d → a ≤ b → (∀ j : Nat, a ≤ j → j < b → (j : Int) ∈ L) → slid1 (b : Int) L (a : Int) = b := by
  intro d
  induction d with
  | zero =>
    intro a h1 h2 _
    obtain rfl : a = b := by omega
    exact slid1_stop (by omega)
  | succ d ih =>
    intro a h1 h2 h3
    rw [slid1_go ⟨by omega, h3 a (Nat.le_refl _) (by omega)⟩]
    exact ih (a + 1) (by omega) (by omega) (fun j hj hk => h3 j (by omega) hk)

set_option maxHeartbeats 400000 in
theorem pFree (g : Addr) (at_ : Int) (w : World) :
    Calls Try.prog 58 #[.pointer (some g), .int .i64 at_] w fun e w' => e = .returned (.func (.func 71) #[] #[.pointer (some ⟨w.heap.size + 1, 0, none⟩), .pointer (some ⟨w.heap.size, 0, none⟩)]) ∧
      (w.alloc (.cells #[.pointer (some g)] 56)).alloc (.cells #[.int .i64 at_] 3) = w' := by
  go_enter Try.func58, Try.ntmps58
  go_wp2
  go_ret
  exact ⟨rfl, rfl⟩

theorem pu_cell {w : World} {g : Nat} {pl : Int} {wh : Bool} {L : List Int} {A : Option Addr} {n c : Nat} {s : Int} (h : w.heap[g]? = some (.cells (puCells pl wh L A n c s) 64 (0, 0))) (i : Nat) :
    w.cell? ⟨g, i, none⟩ = (puCells pl wh L A n c s)[i]? := cell_of_row w g i _ _ (0, 0) h
theorem pu_taken {w : World} {g : Nat} {pl : Int} {wh : Bool} {L : List Int} {A : Option Addr} {n c : Nat} {s : Int} (h : w.heap[g]? = some (.cells (puCells pl wh L A n c s) 64 (0, 0))) {k : Nat} (hk : k < 8) :
    w.cell? ⟨g, 2 + k, none⟩ = some (.int .i64 (tkI L k)) := by
  rw [pu_cell h]
  match k, hk with
  | 0, _ => rfl
  | 1, _ => rfl
  | 2, _ => rfl
  | 3, _ => rfl
  | 4, _ => rfl
  | 5, _ => rfl
  | 6, _ => rfl
  | 7, _ => rfl
theorem tkI_yes {L : List Int} {i : Int} (h : i ∈ L) : tkI L i = 1 := if_pos h
theorem tkI_no {L : List Int} {i : Int} (h : i ∉ L) : tkI L i = 0 := if_neg h

set_option maxRecDepth 100000 in
set_option maxHeartbeats 1000000 in
theorem free1_in (F : Fence) (n : Nat) (hF : F.fn 71) (hro : F.round = none) (hn : 1 ≤ n) (l bp bf g n₀ a b : Nat) (wh : Bool) (L : List Int) (A : Option Addr) (m c : Nat) (s : Int) (hb8 : b ≤ 8) (hab : a ≤ b)
    (hbp : bp < n₀) (hg : g < n₀) (J Jx : List (Free L) → World → Prop)
    (hY : ∀ pre x W, J pre W → pre.length < 9 → YieldAt F (n - 1) Try.prog l #[.int .i64 ((x : Free L).1 : Int)] W fun e W' =>
      (e = .returned (.bool true) ∧ J (pre ++ [x]) W' ∧ Below n₀ W W') ∨ (e = .returned (.bool false) ∧ Jx (pre ++ [x]) W'))
    (W : World) (hcp : W.cell? ⟨bp, 0, none⟩ = some (.pointer (some ⟨g, 0, none⟩))) (hcf : W.cell? ⟨bf, 0, none⟩ = some (.int .i64 (a : Int)))
    (hpu : W.heap[g]? = some (.cells (puCells (b : Int) wh L A m c s) 64 (0, 0))) (h0 : J [] W) :
    CallsIn F n Try.prog 71 #[.func (.yield l) #[] #[], .pointer (some ⟨bf, 0, none⟩), .pointer (some ⟨bp, 0, none⟩)] W fun e W' => (∃ v, e = .returned v) ∧
      ((∃ ys, ys = yl L a b ∧ J ys W') ∨ (∃ pre, (∃ k, k < b ∧ a ≤ k ∧ (k : Int) ∉ L ∧ pre = yl L a (k + 1)) ∧ Jx pre W')) := by
  refine callsIn_of_wp Try.func71 rfl hF ?_ hro
  simp only [Try.ntmps71, List.size_toArray, List.length_cons, List.length_nil, Nat.reduceAdd, Nat.reduceSub, Array.replicate_succ, Array.replicate_zero, List.push_toArray, List.append_toArray, List.nil_append, List.cons_append]
  gi_wp2
  gi_loopw [4] (fun i wr => ∃ k : Nat, a ≤ k ∧ k ≤ b ∧ i = .int .i64 k ∧ J (yl L a k) wr ∧ Below n₀ W wr) (fun i _ => b - (intOf i).toNat)
  case atStart => exact ⟨a, Nat.le_refl _, hab, rfl, by rw [yl_start L a a (Nat.le_refl _)]; exact h0, Below.refl _ _⟩
  case round =>
    obtain ⟨k, hak, hk, rfl, hJs, hnx⟩ := hrel
    have hcp' := (hnx.cell (p := ⟨bp, 0, none⟩) hbp).trans hcp
    have hpu' := (hnx.block g hg).trans hpu
    have hc0 : wr.cell? ⟨g, 0, none⟩ = some (.int .i64 (b : Int)) := pu_cell hpu' 0
    by_cases hlt : k < b
    · have hc1 := pu_taken hpu' (k := k) (by omega)
      clear hpu'
      by_cases hm : (k : Int) ∈ L
      · have HX := Lib.hid (yl_no (a := a) hm)
        rw [tkI_yes hm] at hc1
        clear hm
        gi_wp2
        refine ⟨fun _ h => (by cases h), ?_⟩
        gi_wp2
        go_roundw
        case rel => exact ⟨k + 1, by omega, by omega, by go_num, by rw [HX.out]; exact hJs, hnx⟩
        case measure => simp [intOf]; omega
      · have HX := Lib.hid (yl_yes (a := a) (b := k) (by omega) hak hm)
        rw [tkI_no hm] at hc1
        obtain ⟨fn, tmps, assign, body, hy, hR⟩ := hY _ ⟨k, by omega, hm⟩ wr hJs (by have := yl_le L a k; omega)
        have HM := Lib.hid hm
        dsimp only at hy
        gi_wp2
        refine hR.mono ?_
        rintro e W3 (⟨rfl, hJ3, hk3⟩ | ⟨rfl, hJx3⟩)
        · gi_wp2
          go_roundw
          case rel => exact ⟨k + 1, by omega, by omega, by go_num, by rw [HX.out]; exact hJ3, hnx.trans hk3⟩
          case measure => simp [intOf]; omega
        · gi_wp2
          refine bodyPost_ret (results_none rfl _ _ _) rfl ?_
          exact ⟨⟨_, rfl⟩, .inr ⟨_, ⟨k, hlt, hak, HM.out, HX.out.symm⟩, hJx3⟩⟩
    · obtain rfl : k = b := by omega
      clear hpu'
      gi_wp2
      go_end0
      exact ⟨⟨_, rfl⟩, .inl ⟨_, rfl, hJs⟩⟩

theorem free1_stops (F : Fence) (n : Nat) (hF : F.fn 71) (hro : F.round = none) (hn : 1 ≤ n) (bp bf g n₀ a b : Nat) (wh : Bool) (L : List Int) (A : Option Addr) (m c : Nat) (s : Int) (hb8 : b ≤ 8) (hab : a ≤ b) (w : World)
    (hbp : bp < n₀) (hbf : bf < n₀) (hg : g < n₀) (hn₀ : n₀ ≤ w.heap.size) (hcp : w.cell? ⟨bp, 0, none⟩ = some (.pointer (some ⟨g, 0, none⟩))) (hcf : w.cell? ⟨bf, 0, none⟩ = some (.int .i64 (a : Int)))
    (hpu : w.heap[g]? = some (.cells (puCells (b : Int) wh L A m c s) 64 (0, 0))) :
    SeqStopsK F n Try.prog 71 #[.pointer (some ⟨bf, 0, none⟩), .pointer (some ⟨bp, 0, none⟩)] (fun x : Free L => #[.int .i64 (x.1 : Int)]) (Below n₀) (fun ys => ys = yl L a b)
      (fun pre => ∃ k, k < b ∧ a ≤ k ∧ (k : Int) ∉ L ∧ pre = yl L a (k + 1)) 9 w := fun l J Jx W hW _ _ hY h0 =>
  free1_in F n hF hro hn l bp bf g n₀ a b wh L A m c s hb8 hab hbp hg J Jx hY W ((hW.cell (p := ⟨bp, 0, none⟩) (Nat.lt_of_lt_of_le hbp hn₀)).trans hcp) ((hW.cell (p := ⟨bf, 0, none⟩) (Nat.lt_of_lt_of_le hbf hn₀)).trans hcf) ((hW.block g (Nat.lt_of_lt_of_le hg hn₀)).trans hpu) h0
end Go.Proofs.Ytkeiajncmhkdmaa
