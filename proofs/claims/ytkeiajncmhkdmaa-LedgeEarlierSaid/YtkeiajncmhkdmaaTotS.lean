/-
  What each exported function answers, errors too: plain functions.
-/
import Derived.Test.YtkeiajncmhkdmaaPL
import Derived.Test.YtkeiajncmhkdmaaInc
namespace Go.Proofs.Ytkeiajncmhkdmaa

def rowErrS (m : Int) : Int := if 0 < m then 20 else 0
def lieS (p : Int) (ds : List Int) : List Int × Int × Int := if checkDrops p ds = 0 then (lieOf p ds, farOf p ds, 0) else ([], 0, checkDrops p ds)
def fullS (p : Int) (ds : List Int) : List Int × Int × Int := if checkDrops p ds = 0 then (fullOf p ds, fellOf p ds, 0) else ([], 0, checkDrops p ds)
def overCS (p : Int) (ds : List Int) (q : Int) : Int × Int := if checkDrops p ds = 0 then (if q < 0 ∨ p ≤ q then (0, 2) else (overOf p ds q, 0)) else (0, checkDrops p ds)
def overS (p : Int) (ds : List Int) : Int × Int := if checkDrops p ds = 0 then overR p ds else (0, checkDrops p ds)
def rowS (p : Int) (ds : List Int) : Int := if checkDrops p ds = 0 then rowErrS (fellOf p ds) else checkDrops p ds
def mayS (p : Int) (ds : List Int) : List Int × Int := if checkDrops p ds = 0 then (if 0 < fellOf p ds then ([], 20) else (mayIn p ds p.toNat, 0)) else ([], checkDrops p ds)
def countS (p k : Int) : Int × Int := if p < 1 ∨ 8 < p then (0, 6) else if k < 0 ∨ 12 < k then (0, 3) else (countIn k (2 ^ p.toNat), 0)
def leaveO (p : Nat) (l : List Int) : Int × Int := if (incR (p : Int) l).1 = true then (leftAt (setBits l), 0) else (0, 3)
def leaveS (p : Int) (l : List Int) : Int × Int := if p < 1 ∨ 8 < p then (0, 6) else leaveO p.toNat l
def outP (p x : Int) : Bool := decide (x < 0) || decide (p - 1 < x)
def freshB (xs : List Int) : Bool := (List.range xs.length).all fun i => decide (nth xs i ∉ xs.take i)
def waysS (p : Int) (xs : List Int) : Int × Int := if p < 1 ∨ 8 < p then (0, 6) else if xs.any (outP p) then (0, 3) else if freshB xs then (waysIn xs xs.length, 0) else (0, 11)
def roundS (p : Int) (ds : List Int) : List Int × Int × Int := if checkDrops p ds = 0 then (if p < ds.length then ([], 0, 10) else ((runW true p ds).1, (runW true p ds).2, 0)) else ([], 0, checkDrops p ds)
theorem freshB_iff (xs : List Int) : freshB xs = true ↔ Fresh xs xs.length := by
  unfold freshB Fresh
  rw [List.all_eq_true]
  simp only [List.mem_range, decide_eq_true_eq]
theorem checkDrops_cases (p : Int) (ds : List Int) : checkDrops p ds = 0 ∨ checkDrops p ds = 3 ∨ checkDrops p ds = 6 := by
  unfold checkDrops
  split
  · exact .inr (.inr rfl)
  · split
    · exact .inl rfl
    · exact .inr (.inl rfl)
/-- The closed form of Count. -/
def countC (p c : Int) : Int := if c = 0 then 1 else if p < c then 0 else (p + 1 - c) * (((p + 1).toNat ^ (c - 1).toNat : Nat) : Int)
def countOk (b k : Nat) : Bool := decide (b = 0) || decide (countC (b : Int) (k : Int) = countIn (k : Int) (2 ^ b))
theorem countOk_all : (List.range 9).all (fun b => (List.range 13).all (countOk b)) = true := by decide +kernel
theorem count_closed {b k : Nat} (h1 : 1 ≤ b) (h8 : b ≤ 8) (hk : k ≤ 12) : countC (b : Int) (k : Int) = countIn (k : Int) (2 ^ b) := by
  have h := List.all_eq_true.1 (List.all_eq_true.1 countOk_all b (List.mem_range.2 (by omega))) k (List.mem_range.2 (by omega))
  simp only [countOk, Bool.or_eq_true, decide_eq_true_eq] at h
  rcases h with h | h
  · omega
  · exact h
end Go.Proofs.Ytkeiajncmhkdmaa
