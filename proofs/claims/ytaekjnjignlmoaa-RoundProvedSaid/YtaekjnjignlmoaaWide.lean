/-
  The laws' 'wide'.
-/
import Derived.Test.YtaekjnjignlmoaaBd
import Derived.Test.YtaekjnjignlmoaaBm
namespace Go.Proofs.Ytaekjnjignlmoaa
open Go.RowKit Go.Shelf

def wideN (N : Nat) (Rs : List (List (Int × Int))) : Bool := decide (14 < N) || Rs.any fun L => decide (14 < L.length)
theorem wideN_false {N : Nat} {Rs : List (List (Int × Int))} (h : wideN N Rs = false) : N ≤ 14 ∧ ∀ L ∈ Rs, L.length ≤ 14 := by
  unfold wideN at h
  rw [Bool.or_eq_false_iff] at h
  refine ⟨by have := of_decide_eq_false h.1; omega, fun L hL => ?_⟩
  have := List.any_eq_false.1 h.2 L hL
  simpa using this
set_option maxRecDepth 100000 in
set_option maxHeartbeats 4000000 in
theorem aWideT (D : Option Addr) (N dc : Nat) (Rs : List (List (Int × Int))) (w : World) (h_b : Bd w w.heap.size D N Rs) (r : Bool) (HR : Hid (wideN N Rs = r)) :
    Calls Try.prog 35 #[.slice D N dc] w (RetB w r) := by
  have HB := Lib.hid h_b.len
  by_cases hN : 14 < N
  · have HRR : Hid (r = true) := Lib.hid (by rw [← HR.out]; unfold wideN; rw [decide_eq_true hN]; rfl)
    go_enter Try.func35, Try.ntmps35
    go_wp2
    go_ret
    exact ⟨(by rw [HRR.out]; try rfl), Below.refl _ _⟩
  · have HRR : Hid (r = Rs.any fun L => decide (14 < L.length)) := Lib.hid (by rw [← HR.out]; unfold wideN; rw [decide_eq_false hN]; rfl)
    go_enter Try.func35, Try.ntmps35
    go_wp2
    go_loopw [3, 4] (fun n i wr => ∃ k mx : Nat, k ≤ N ∧ n = .int .i64 (mx : Int) ∧ i = .int .i64 (k : Int) ∧ Hid (14 < mx ↔ ∃ x : Nat, x < k ∧ 14 < (Rs[x]?.getD []).length) ∧ Below w.heap.size w wr) (fun _ i _ => N - (intOf i).toNat)
    case atStart => exact ⟨0, 0, Nat.zero_le _, rfl, rfl, Lib.hid ⟨fun h => absurd h (by omega), fun ⟨x, h, _⟩ => absurd h (Nat.not_lt_zero _)⟩, Below.refl _ _⟩
    case round =>
      obtain ⟨k, mx, hk, rfl, rfl, HM, hb⟩ := hrel
      by_cases hlt : k < N
      · obtain ⟨ad, A', c', mk, L, rfl, _, r1, HLk, HLm, hmc, _⟩ := (h_b.below hb).at_ hlt
        have hwk : IntKind.i64.wrap (k : Int) = (k : Int) := IntWalk.i64_in _ (by omega)
        have HGK : Hid ((Rs[k]?.getD []).length = mk) := Lib.hid (by rw [HLk.out]; exact HLm.out)
        by_cases hm : mx < mk
        · have HN2 : Hid (14 < mk ↔ ∃ x : Nat, x < k + 1 ∧ 14 < (Rs[x]?.getD []).length) := Lib.hid ⟨fun h => ⟨k, by omega, by rw [HGK.out]; exact h⟩, fun ⟨x, h1, h2⟩ => by
            by_cases hx : x = k
            · rw [hx, HGK.out] at h2; exact h2
            · have := HM.out.2 ⟨x, by omega, h2⟩
              omega⟩
          have hm2 : ((mx : Int) < (mk : Int)) = True := by simp; omega
          go_wp2
          go_roundw
          case rel => exact ⟨k + 1, mk, by omega, rfl, by go_num, HN2, hb⟩
          case measure => simp [intOf]; omega
        · have HN2 : Hid (14 < mx ↔ ∃ x : Nat, x < k + 1 ∧ 14 < (Rs[x]?.getD []).length) := Lib.hid ⟨fun h => by
            obtain ⟨x, h1, h2⟩ := HM.out.1 h
            exact ⟨x, by omega, h2⟩, fun ⟨x, h1, h2⟩ => by
            by_cases hx : x = k
            · rw [hx, HGK.out] at h2; omega
            · exact HM.out.2 ⟨x, by omega, h2⟩⟩
          have hm2 : ((mx : Int) < (mk : Int)) = False := by simp; omega
          go_wp2
          go_roundw
          case rel => exact ⟨k + 1, mx, by omega, rfl, by go_num, HN2, hb⟩
          case measure => simp [intOf]; omega
      · have HF0 : Hid (r = decide (14 < mx)) := Lib.hid (by
          rw [HRR.out, Bool.eq_iff_iff, decide_eq_true_eq, List.any_eq_true, HM.out]
          constructor
          · rintro ⟨L, hL, h⟩
            obtain ⟨x, hx, rfl⟩ := List.getElem_of_mem hL
            exact ⟨x, by have := HB.out; omega, by rw [List.getElem?_eq_getElem hx]; exact of_decide_eq_true h⟩
          · rintro ⟨x, hx, h⟩
            have hx2 : x < Rs.length := by have := HB.out; omega
            rw [List.getElem?_eq_getElem hx2, Option.getD_some] at h
            exact ⟨_, List.getElem_mem hx2, decide_eq_true h⟩)
        have HF : Hid (r = decide (14 < (mx : Int))) := Lib.hid (HF0.out.trans (decide_eq_decide.2 (by omega)))
        go_wp2
        go_ret
        exact ⟨(by rw [HF.out]; rfl), hb⟩
end Go.Proofs.Ytaekjnjignlmoaa
