/-
  The orders of a set's places: as many rows of drops as Leave says. Plain.
-/
import Derived.Test.YtkeiajncmhkdmaaRefB
import Derived.Test.YtkeiajncmhkdmaaPL
import Derived.Test.YtkeiajncmhkdmaaInc
namespace Go.Proofs.Ytkeiajncmhkdmaa

def ordIn : Nat → List Int → List Int → Int
  | 0, begun, _ => waysIn begun begun.length
  | n + 1, begun, left => ((List.range left.length).map fun i => ordIn n (begun ++ [nth left i]) (left.take i ++ left.drop (i + 1))).sum
def ordTo (n : Nat) (begun left : List Int) (k : Nat) : Int := ((List.range k).map fun i => ordIn n (begun ++ [nth left i]) (left.take i ++ left.drop (i + 1))).sum
theorem ordTo_succ (n : Nat) (begun left : List Int) (k : Nat) : ordTo n begun left (k + 1) = ordTo n begun left k + ordIn n (begun ++ [nth left k]) (left.take k ++ left.drop (k + 1)) := by
  simp [ordTo, List.range_succ]
theorem ordTo_done (n : Nat) (begun left : List Int) : ordTo n begun left left.length = ordIn (n + 1) begun left := rfl
def ordOk (s : Nat) : Bool := decide (5 < (listed s).length) || decide (ordIn (listed s).length [] (listed s) = leftAt s)
theorem ordOk_all : (List.range 256).all ordOk = true := by decide +kernel
theorem ord_leave {s : Nat} (hs : s < 256) (h5 : (listed s).length ≤ 5) : ordIn (listed s).length [] (listed s) = leftAt s := by
  have h := List.all_eq_true.1 ordOk_all s (List.mem_range.2 hs)
  simp only [ordOk, Bool.or_eq_true, decide_eq_true_eq] at h
  omega
end Go.Proofs.Ytkeiajncmhkdmaa
