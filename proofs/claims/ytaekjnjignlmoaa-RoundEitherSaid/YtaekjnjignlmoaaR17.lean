/-
  The reference: 'before'.
-/
import Derived.Test.YtaekjnjignlmoaaR2
namespace Go.Proofs.Ytaekjnjignlmoaa
open Go.RowKit Go.Shelf

/-- A list comes before another one, in lexicographic order. -/
def befI : List Int → List Int → Bool
  | x :: a, y :: b => if x = y then befI a b else decide (x < y)
  | _, _ => false
theorem befI_take : ∀ (k : Nat) {a b : List Int}, a.take k = b.take k → befI a b = befI (a.drop k) (b.drop k)
  | 0, _, _, _ => rfl
  | k + 1, [], [], _ => rfl
  | k + 1, [], y :: b, h => by simp at h
  | k + 1, x :: a, [], h => by simp at h
  | k + 1, x :: a, y :: b, h => by
    rw [List.take_succ_cons, List.take_succ_cons] at h
    injection h with h1 h2
    rw [befI, if_pos h1, List.drop_succ_cons, List.drop_succ_cons]
    exact befI_take k h2
theorem drop_at {l : List Int} {k : Nat} {x : Int} (h : l[k]? = some x) : l.drop k = x :: l.drop (k + 1) := by
  obtain ⟨hk, he⟩ := List.getElem?_eq_some_iff.1 h
  rw [List.drop_eq_getElem_cons hk, he]
set_option maxRecDepth 100000 in
set_option maxHeartbeats 2000000 in
theorem rBefore (A : Option Addr) (m c : Nat) (xs : List Int) (B : Option Addr) (d : Nat) (ys : List Int) (w : World) (hx : Ri w w.heap.size A m xs) (hy : Ri w w.heap.size B m ys) (hm : m ≤ 1048576) (r : Bool) (HR : Hid (befI xs ys = r)) :
    Calls Try.prog 92 #[.slice A m c, .slice B m d] w (RetB w r) := by
  have HX := Lib.hid hx.len
  have HY := Lib.hid hy.len
  go_enter Try.func92, Try.ntmps92
  go_wp2
  go_loopw [5] (fun i wr => ∃ k dd : Nat, k ≤ m ∧ i = .int .i64 (k : Int) ∧ Hid (xs.take k = ys.take k) ∧ wr = w.drewN dd) (fun i _ => m - (intOf i).toNat)
  case atStart => exact ⟨0, 0, Nat.zero_le _, rfl, Lib.hid rfl, rfl⟩
  case round =>
    obtain ⟨k, dd, hk, rfl, HE, rfl⟩ := hrel
    by_cases hlt : k < m
    · obtain ⟨ad, x, rfl, _, c1, hx1, _⟩ := hx.at_ hlt
      obtain ⟨ad2, y, rfl, _, c2, hy1, _⟩ := hy.at_ hlt
      have HX1 := Lib.hid hx1.out
      have HY1 := Lib.hid hy1.out
      clear hx1 hy1
      by_cases he : x = y
      · have HE2 : Hid (xs.take (k + 1) = ys.take (k + 1)) := Lib.hid (by rw [take_snoc HX1.out, take_snoc HY1.out, HE.out, he])
        have hb : (x != y) = false := by simp [he]
        clear he
        go_wp2
        go_quiet (fail)
        go_wp2
        go_roundw
        case rel => exact ⟨k + 1, _, by omega, by go_num, HE2, rfl⟩
        case measure => simp [intOf]; omega
      · obtain ⟨q, HQ⟩ : ∃ q : Bool, Hid (decide (x < y) = q) := ⟨_, Lib.hid rfl⟩
        have HE2 : Hid (q = r) := Lib.hid (by
          rw [← HR.out, befI_take k HE.out, drop_at HX1.out, drop_at HY1.out, befI, if_neg he, HQ.out])
        have hb : (x != y) = true := by simp [he]
        have hq := HQ.out
        clear he
        go_wp2
        go_quiet (fail)
        go_wp2
        go_quiet (fail)
        go_wp2
        go_ret
        exact ⟨ret_b (by first | exact HE2.out | (rw [HQ.out]; exact HE2.out)), below_drewN (below_drewN (below_drewN (Below.refl _ _) _) _) _⟩
    · have HE2 : Hid (r = false) := Lib.hid (by
        have h := HE.out
        rw [← HR.out, befI_take k h, List.drop_eq_nil_of_le (by rw [HX.out]; omega)]
        rfl)
      go_wp2
      go_ret
      exact ⟨ret_b HE2.out.symm, below_drewN (Below.refl _ _) _⟩
end Go.Proofs.Ytaekjnjignlmoaa
