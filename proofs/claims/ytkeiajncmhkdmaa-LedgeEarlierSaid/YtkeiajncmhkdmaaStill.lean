/-
  A region that draws its order, walked ahead of its tail: an operation that is wanted, one that is passed over.
-/
import Derived.Test.YtkeiajncmhkdmaaBase
import Derived.StillTailTactics
namespace Go.Proofs.Ytkeiajncmhkdmaa
open Go.RowKit

section
variable {P : Program} {ops : Array Oper} {w : World} {Q : Act → Prop} {a : Act} {o : Oper} {rest : List Oper}
theorem still_skip (h : Region.wanted o (yielded ops a.tmps) = false) (hk : wpStill P ops w Q rest (a.put o.dst undef)) : wpStill P ops w Q (o :: rest) a := by
  unfold wpStill
  rw [if_neg (by rw [h]; decide)]
  exact hk
theorem still_want (h : Region.wanted o (yielded ops a.tmps) = true) (hk : ∀ K : Act → Prop, (∀ a, wpStill P ops w Q rest a → K a) → o.still P a w K) : wpStill P ops w Q (o :: rest) a := by
  unfold wpStill
  rw [if_pos h]
  exact hk _ fun _ h => h
end
end Go.Proofs.Ytkeiajncmhkdmaa
