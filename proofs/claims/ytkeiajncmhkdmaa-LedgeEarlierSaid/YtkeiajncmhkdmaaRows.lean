/-
  No cell of these rows narrows 'for every input' (looked for: loops, veiled, ifaces, maps, wideKeys, modest, calm, conditions, laid).
  DERIVED. THE GIVEN ROWS OF THIS SEAT. 14 by the template 'for every input the law returns true; each argument reads behind the call as it read before'; 0 by the template 'total and deterministic' (their statements: YtkeiajncmhkdmaaTotals.lean).
  GIVEN WITH THE SEED: the statements are not yours to turn. If you find one false, say at which input.
  Laid BY PROGRAM, IN A SANDBOX (cutbox-rows.mjs): the forced cells as the released guide's own fill.sh prints them over the translation 78e0a2e0d972170e… (all of the seat's roots in one cut). By AI agents, Wed Nov 11 2026. No macro, syntax, notation, axiom, sorry.
-/
import Derived.Test.YtkeiajncmhkdmaaChecked
import GoSem.Claim
import GoSem.ClaimJoined
import GoSem.ClaimMapViews
import Derived.JoinedTies
import Derived.KernelRfl
namespace Go.Proofs.Ytkeiajncmhkdmaa
/- THE CELL 'sum', in the pinned program and in every row, IS THE sha256 OF THE DUMP (.gsa) THAT YtkeiajncmhkdmaaProg.lean LOADS. Nothing in Lean hashes anything: it is a label: what it is worth is what the hold of that sum in a sandbox is worth. -/
noncomputable def Try.pinned : Pinned := { name := "ytkeiajncmhkdmaa", sum := "78e0a2e0d972170e68c1c1c42008859dc882982ffb747052142456d799281f93", checked := Try.checked }
namespace Rows
def none {H : Type} : Left H := { results := [], args := [] }

/-- 'pennyfalllaw04.LedgeDrops': WHATEVER THE INPUT: true; the input reads as it did. -/
def ledgeDropsSpec : ChangeSpec := { name := "ledgeDrops", fn := fun _ => fun
  | [d1, d2] => { results := [.lit (.bool true)], args := [d1, d2] }
  | _ => none }
def ledgeDropsRow : OpenClaim := { program := "ytkeiajncmhkdmaa", sum := "78e0a2e0d972170e68c1c1c42008859dc882982ffb747052142456d799281f93", func := "pennyfall/pennyfalllaw04.LedgeDrops", spec := "ledgeDrops", unfollowed := true, recurses := true, plainKeys := false, apart := false }
def LedgeDropsSaid : Prop := ledgeDropsRow.holds Try.pinned (OpenSpec.ofChange ledgeDropsSpec)

/-- ITS FALSE NEIGHBOUR: 'it returns false'. Refute it at one input. -/
def ledgeDropsWrong : ChangeSpec := { name := "ledgeDrops", fn := fun _ => fun
  | [d1, d2] => { results := [.lit (.bool false)], args := [d1, d2] }
  | _ => none }
def LedgeDropsWrongFalsely : Prop := ledgeDropsRow.holds Try.pinned (OpenSpec.ofChange ledgeDropsWrong)

/-- 'pennyfalllaw04.LedgeOvers': WHATEVER THE INPUT: true; the input reads as it did. -/
def ledgeOversSpec : ChangeSpec := { name := "ledgeOvers", fn := fun _ => fun
  | [d1, d2, d3] => { results := [.lit (.bool true)], args := [d1, d2, d3] }
  | _ => none }
def ledgeOversRow : OpenClaim := { program := "ytkeiajncmhkdmaa", sum := "78e0a2e0d972170e68c1c1c42008859dc882982ffb747052142456d799281f93", func := "pennyfall/pennyfalllaw04.LedgeOvers", spec := "ledgeOvers", unfollowed := true, recurses := true, plainKeys := false, apart := false }
def LedgeOversSaid : Prop := ledgeOversRow.holds Try.pinned (OpenSpec.ofChange ledgeOversSpec)

/-- ITS FALSE NEIGHBOUR: 'it returns false'. Refute it at one input. -/
def ledgeOversWrong : ChangeSpec := { name := "ledgeOvers", fn := fun _ => fun
  | [d1, d2, d3] => { results := [.lit (.bool false)], args := [d1, d2, d3] }
  | _ => none }
def LedgeOversWrongFalsely : Prop := ledgeOversRow.holds Try.pinned (OpenSpec.ofChange ledgeOversWrong)

/-- 'pennyfalllaw04.LedgeCounts': WHATEVER THE INPUT: true; the input reads as it did. -/
def ledgeCountsSpec : ChangeSpec := { name := "ledgeCounts", fn := fun _ => fun
  | [d1, d2, d3, d4] => { results := [.lit (.bool true)], args := [d1, d2, d3, d4] }
  | _ => none }
def ledgeCountsRow : OpenClaim := { program := "ytkeiajncmhkdmaa", sum := "78e0a2e0d972170e68c1c1c42008859dc882982ffb747052142456d799281f93", func := "pennyfall/pennyfalllaw04.LedgeCounts", spec := "ledgeCounts", unfollowed := true, recurses := true, plainKeys := false, apart := false }
def LedgeCountsSaid : Prop := ledgeCountsRow.holds Try.pinned (OpenSpec.ofChange ledgeCountsSpec)

/-- ITS FALSE NEIGHBOUR: 'it returns false'. Refute it at one input. -/
def ledgeCountsWrong : ChangeSpec := { name := "ledgeCounts", fn := fun _ => fun
  | [d1, d2, d3, d4] => { results := [.lit (.bool false)], args := [d1, d2, d3, d4] }
  | _ => none }
def LedgeCountsWrongFalsely : Prop := ledgeCountsRow.holds Try.pinned (OpenSpec.ofChange ledgeCountsWrong)

/-- 'pennyfalllaw04.LedgeRounds': WHATEVER THE INPUT: true; the input reads as it did. -/
def ledgeRoundsSpec : ChangeSpec := { name := "ledgeRounds", fn := fun _ => fun
  | [d1, d2] => { results := [.lit (.bool true)], args := [d1, d2] }
  | _ => none }
def ledgeRoundsRow : OpenClaim := { program := "ytkeiajncmhkdmaa", sum := "78e0a2e0d972170e68c1c1c42008859dc882982ffb747052142456d799281f93", func := "pennyfall/pennyfalllaw04.LedgeRounds", spec := "ledgeRounds", unfollowed := true, recurses := true, plainKeys := false, apart := false }
def LedgeRoundsSaid : Prop := ledgeRoundsRow.holds Try.pinned (OpenSpec.ofChange ledgeRoundsSpec)

/-- ITS FALSE NEIGHBOUR: 'it returns false'. Refute it at one input. -/
def ledgeRoundsWrong : ChangeSpec := { name := "ledgeRounds", fn := fun _ => fun
  | [d1, d2] => { results := [.lit (.bool false)], args := [d1, d2] }
  | _ => none }
def LedgeRoundsWrongFalsely : Prop := ledgeRoundsRow.holds Try.pinned (OpenSpec.ofChange ledgeRoundsWrong)

/-- 'pennyfalllaw04.LedgeOrder': WHATEVER THE INPUT: true; the input reads as it did. -/
def ledgeOrderSpec : ChangeSpec := { name := "ledgeOrder", fn := fun _ => fun
  | [d1, d2, d3] => { results := [.lit (.bool true)], args := [d1, d2, d3] }
  | _ => none }
def ledgeOrderRow : OpenClaim := { program := "ytkeiajncmhkdmaa", sum := "78e0a2e0d972170e68c1c1c42008859dc882982ffb747052142456d799281f93", func := "pennyfall/pennyfalllaw04.LedgeOrder", spec := "ledgeOrder", unfollowed := true, recurses := true, plainKeys := false, apart := false }
def LedgeOrderSaid : Prop := ledgeOrderRow.holds Try.pinned (OpenSpec.ofChange ledgeOrderSpec)

/-- ITS FALSE NEIGHBOUR: 'it returns false'. Refute it at one input. -/
def ledgeOrderWrong : ChangeSpec := { name := "ledgeOrder", fn := fun _ => fun
  | [d1, d2, d3] => { results := [.lit (.bool false)], args := [d1, d2, d3] }
  | _ => none }
def LedgeOrderWrongFalsely : Prop := ledgeOrderRow.holds Try.pinned (OpenSpec.ofChange ledgeOrderWrong)

/-- 'pennyfalllaw04.LedgeProved': WHATEVER THE INPUT: true; the input reads as it did. -/
def ledgeProvedSpec : ChangeSpec := { name := "ledgeProved", fn := fun _ => fun
  | [d1, d2, d3] => { results := [.lit (.bool true)], args := [d1, d2, d3] }
  | _ => none }
def ledgeProvedRow : OpenClaim := { program := "ytkeiajncmhkdmaa", sum := "78e0a2e0d972170e68c1c1c42008859dc882982ffb747052142456d799281f93", func := "pennyfall/pennyfalllaw04.LedgeProved", spec := "ledgeProved", unfollowed := true, recurses := true, plainKeys := false, apart := false }
def LedgeProvedSaid : Prop := ledgeProvedRow.holds Try.pinned (OpenSpec.ofChange ledgeProvedSpec)

/-- ITS FALSE NEIGHBOUR: 'it returns false'. Refute it at one input. -/
def ledgeProvedWrong : ChangeSpec := { name := "ledgeProved", fn := fun _ => fun
  | [d1, d2, d3] => { results := [.lit (.bool false)], args := [d1, d2, d3] }
  | _ => none }
def LedgeProvedWrongFalsely : Prop := ledgeProvedRow.holds Try.pinned (OpenSpec.ofChange ledgeProvedWrong)

/-- 'pennyfalllaw04.LedgeSorted': WHATEVER THE INPUT: true; the input reads as it did. -/
def ledgeSortedSpec : ChangeSpec := { name := "ledgeSorted", fn := fun _ => fun
  | [d1, d2] => { results := [.lit (.bool true)], args := [d1, d2] }
  | _ => none }
def ledgeSortedRow : OpenClaim := { program := "ytkeiajncmhkdmaa", sum := "78e0a2e0d972170e68c1c1c42008859dc882982ffb747052142456d799281f93", func := "pennyfall/pennyfalllaw04.LedgeSorted", spec := "ledgeSorted", unfollowed := true, recurses := true, plainKeys := false, apart := false }
def LedgeSortedSaid : Prop := ledgeSortedRow.holds Try.pinned (OpenSpec.ofChange ledgeSortedSpec)

/-- ITS FALSE NEIGHBOUR: 'it returns false'. Refute it at one input. -/
def ledgeSortedWrong : ChangeSpec := { name := "ledgeSorted", fn := fun _ => fun
  | [d1, d2] => { results := [.lit (.bool false)], args := [d1, d2] }
  | _ => none }
def LedgeSortedWrongFalsely : Prop := ledgeSortedRow.holds Try.pinned (OpenSpec.ofChange ledgeSortedWrong)

/-- 'pennyfalllaw04.LedgeEarlier': WHATEVER THE INPUT: true; the input reads as it did. -/
def ledgeEarlierSpec : ChangeSpec := { name := "ledgeEarlier", fn := fun _ => fun
  | [d1, d2, d3, d4] => { results := [.lit (.bool true)], args := [d1, d2, d3, d4] }
  | _ => none }
def ledgeEarlierRow : OpenClaim := { program := "ytkeiajncmhkdmaa", sum := "78e0a2e0d972170e68c1c1c42008859dc882982ffb747052142456d799281f93", func := "pennyfall/pennyfalllaw04.LedgeEarlier", spec := "ledgeEarlier", unfollowed := true, recurses := true, plainKeys := false, apart := false }
def LedgeEarlierSaid : Prop := ledgeEarlierRow.holds Try.pinned (OpenSpec.ofChange ledgeEarlierSpec)

/-- ITS FALSE NEIGHBOUR: 'it returns false'. Refute it at one input. -/
def ledgeEarlierWrong : ChangeSpec := { name := "ledgeEarlier", fn := fun _ => fun
  | [d1, d2, d3, d4] => { results := [.lit (.bool false)], args := [d1, d2, d3, d4] }
  | _ => none }
def LedgeEarlierWrongFalsely : Prop := ledgeEarlierRow.holds Try.pinned (OpenSpec.ofChange ledgeEarlierWrong)

/-- 'pennyfalllaw04.LedgeSummed': WHATEVER THE INPUT: true; the input reads as it did. -/
def ledgeSummedSpec : ChangeSpec := { name := "ledgeSummed", fn := fun _ => fun
  | [d1, d2, d3] => { results := [.lit (.bool true)], args := [d1, d2, d3] }
  | _ => none }
def ledgeSummedRow : OpenClaim := { program := "ytkeiajncmhkdmaa", sum := "78e0a2e0d972170e68c1c1c42008859dc882982ffb747052142456d799281f93", func := "pennyfall/pennyfalllaw04.LedgeSummed", spec := "ledgeSummed", unfollowed := true, recurses := true, plainKeys := false, apart := false }
def LedgeSummedSaid : Prop := ledgeSummedRow.holds Try.pinned (OpenSpec.ofChange ledgeSummedSpec)

/-- ITS FALSE NEIGHBOUR: 'it returns false'. Refute it at one input. -/
def ledgeSummedWrong : ChangeSpec := { name := "ledgeSummed", fn := fun _ => fun
  | [d1, d2, d3] => { results := [.lit (.bool false)], args := [d1, d2, d3] }
  | _ => none }
def LedgeSummedWrongFalsely : Prop := ledgeSummedRow.holds Try.pinned (OpenSpec.ofChange ledgeSummedWrong)

/-- 'pennyfalllaw04.LedgeCounted': WHATEVER THE INPUT: true; the input reads as it did. -/
def ledgeCountedSpec : ChangeSpec := { name := "ledgeCounted", fn := fun _ => fun
  | [d1, d2] => { results := [.lit (.bool true)], args := [d1, d2] }
  | _ => none }
def ledgeCountedRow : OpenClaim := { program := "ytkeiajncmhkdmaa", sum := "78e0a2e0d972170e68c1c1c42008859dc882982ffb747052142456d799281f93", func := "pennyfall/pennyfalllaw04.LedgeCounted", spec := "ledgeCounted", unfollowed := true, recurses := true, plainKeys := false, apart := false }
def LedgeCountedSaid : Prop := ledgeCountedRow.holds Try.pinned (OpenSpec.ofChange ledgeCountedSpec)

/-- ITS FALSE NEIGHBOUR: 'it returns false'. Refute it at one input. -/
def ledgeCountedWrong : ChangeSpec := { name := "ledgeCounted", fn := fun _ => fun
  | [d1, d2] => { results := [.lit (.bool false)], args := [d1, d2] }
  | _ => none }
def LedgeCountedWrongFalsely : Prop := ledgeCountedRow.holds Try.pinned (OpenSpec.ofChange ledgeCountedWrong)

/-- 'pennyfalllaw04.LedgeWheel': WHATEVER THE INPUT: true; the input reads as it did. -/
def ledgeWheelSpec : ChangeSpec := { name := "ledgeWheel", fn := fun _ => fun
  | [d1, d2] => { results := [.lit (.bool true)], args := [d1, d2] }
  | _ => none }
def ledgeWheelRow : OpenClaim := { program := "ytkeiajncmhkdmaa", sum := "78e0a2e0d972170e68c1c1c42008859dc882982ffb747052142456d799281f93", func := "pennyfall/pennyfalllaw04.LedgeWheel", spec := "ledgeWheel", unfollowed := true, recurses := true, plainKeys := false, apart := false }
def LedgeWheelSaid : Prop := ledgeWheelRow.holds Try.pinned (OpenSpec.ofChange ledgeWheelSpec)

/-- ITS FALSE NEIGHBOUR: 'it returns false'. Refute it at one input. -/
def ledgeWheelWrong : ChangeSpec := { name := "ledgeWheel", fn := fun _ => fun
  | [d1, d2] => { results := [.lit (.bool false)], args := [d1, d2] }
  | _ => none }
def LedgeWheelWrongFalsely : Prop := ledgeWheelRow.holds Try.pinned (OpenSpec.ofChange ledgeWheelWrong)

/-- 'pennyfalllaw04.LedgeTurned': WHATEVER THE INPUT: true; the input reads as it did. -/
def ledgeTurnedSpec : ChangeSpec := { name := "ledgeTurned", fn := fun _ => fun
  | [d1, d2, d3] => { results := [.lit (.bool true)], args := [d1, d2, d3] }
  | _ => none }
def ledgeTurnedRow : OpenClaim := { program := "ytkeiajncmhkdmaa", sum := "78e0a2e0d972170e68c1c1c42008859dc882982ffb747052142456d799281f93", func := "pennyfall/pennyfalllaw04.LedgeTurned", spec := "ledgeTurned", unfollowed := true, recurses := true, plainKeys := false, apart := false }
def LedgeTurnedSaid : Prop := ledgeTurnedRow.holds Try.pinned (OpenSpec.ofChange ledgeTurnedSpec)

/-- ITS FALSE NEIGHBOUR: 'it returns false'. Refute it at one input. -/
def ledgeTurnedWrong : ChangeSpec := { name := "ledgeTurned", fn := fun _ => fun
  | [d1, d2, d3] => { results := [.lit (.bool false)], args := [d1, d2, d3] }
  | _ => none }
def LedgeTurnedWrongFalsely : Prop := ledgeTurnedRow.holds Try.pinned (OpenSpec.ofChange ledgeTurnedWrong)

/-- 'pennyfalllaw04.LedgeNext': WHATEVER THE INPUT: true; the input reads as it did. -/
def ledgeNextSpec : ChangeSpec := { name := "ledgeNext", fn := fun _ => fun
  | [d1, d2, d3] => { results := [.lit (.bool true)], args := [d1, d2, d3] }
  | _ => none }
def ledgeNextRow : OpenClaim := { program := "ytkeiajncmhkdmaa", sum := "78e0a2e0d972170e68c1c1c42008859dc882982ffb747052142456d799281f93", func := "pennyfall/pennyfalllaw04.LedgeNext", spec := "ledgeNext", unfollowed := true, recurses := true, plainKeys := false, apart := false }
def LedgeNextSaid : Prop := ledgeNextRow.holds Try.pinned (OpenSpec.ofChange ledgeNextSpec)

/-- ITS FALSE NEIGHBOUR: 'it returns false'. Refute it at one input. -/
def ledgeNextWrong : ChangeSpec := { name := "ledgeNext", fn := fun _ => fun
  | [d1, d2, d3] => { results := [.lit (.bool false)], args := [d1, d2, d3] }
  | _ => none }
def LedgeNextWrongFalsely : Prop := ledgeNextRow.holds Try.pinned (OpenSpec.ofChange ledgeNextWrong)

/-- 'pennyfalllaw04.LedgeKnown': WHATEVER THE INPUT: true; the input reads as it did. -/
def ledgeKnownSpec : ChangeSpec := { name := "ledgeKnown", fn := fun _ => fun
  | [] => { results := [.lit (.bool true)], args := [] }
  | _ => none }
def ledgeKnownRow : OpenClaim := { program := "ytkeiajncmhkdmaa", sum := "78e0a2e0d972170e68c1c1c42008859dc882982ffb747052142456d799281f93", func := "pennyfall/pennyfalllaw04.LedgeKnown", spec := "ledgeKnown", unfollowed := true, recurses := true, plainKeys := false, apart := false }
def LedgeKnownSaid : Prop := ledgeKnownRow.holds Try.pinned (OpenSpec.ofChange ledgeKnownSpec)

/-- ITS FALSE NEIGHBOUR: 'it returns false'. Refute it at one input. -/
def ledgeKnownWrong : ChangeSpec := { name := "ledgeKnown", fn := fun _ => fun
  | [] => { results := [.lit (.bool false)], args := [] }
  | _ => none }
def LedgeKnownWrongFalsely : Prop := ledgeKnownRow.holds Try.pinned (OpenSpec.ofChange ledgeKnownWrong)

/- THE SECOND FORM. 'bulk': how many values and letters a reading holds, each counted each time it is reached (what is shared counts as often as it is met; a slice's spare places count too). A statement '..UptoSaid' is the law's where the arguments, and the package variables that the reading takes, are together of bulk at most 1048576: NARROWER than '..Said'. Prove '..Said' where nothing that the law and all that it calls make is longer than what came in: it says more and counts as full. Else prove '..UptoSaid'. A law counts once. -/
mutual
def uptoBulk {H : Type} : DataW H → Nat
  | .lit (.string bytes) => bytes.length + 1
  | .lit _ => 1
  | .nil => 1
  | .ptr d => uptoBulk d + 1
  | .slice elems spare => uptoBulkAll elems + uptoBulkAll spare + 1
  | .agg parts => uptoBulkAll parts + 1
  | .iface _ d => uptoBulk d + 1
  | .map entries => uptoBulkEntries entries + 1
  | .held _ => 1
def uptoBulkAll {H : Type} : List (DataW H) → Nat
  | [] => 0
  | d :: r => uptoBulk d + uptoBulkAll r
def uptoBulkEntries {H : Type} : List (Lit × DataW H) → Nat
  | [] => 0
  | x :: r => uptoBulkEntry x + uptoBulkEntries r
def uptoBulkEntry {H : Type} : Lit × DataW H → Nat
  | (.string bytes, d) => bytes.length + uptoBulk d + 1
  | (_, d) => uptoBulk d + 1
 end
def uptoSmall : (H : Type) → List (DataW H) → Bool := fun _ ds => decide (uptoBulkAll ds ≤ 1048576)
def OpenSpec.upto (s : _root_.Go.ChangeSpec) : _root_.Go.OpenSpec := { _root_.Go.OpenSpec.ofChange s with cond := some uptoSmall }

/-- 'pennyfalllaw04.LedgeDrops', WHERE WHAT IT READS IS OF BULK AT MOST 1048576: true; the input reads as it did. -/
def ledgeDropsUptoRow : OpenClaim := { program := "ytkeiajncmhkdmaa", sum := "78e0a2e0d972170e68c1c1c42008859dc882982ffb747052142456d799281f93", func := "pennyfall/pennyfalllaw04.LedgeDrops", spec := "ledgeDrops", unfollowed := true, recurses := true, plainKeys := false, apart := false, narrowed := true }
def LedgeDropsUptoSaid : Prop := ledgeDropsUptoRow.holds Try.pinned (OpenSpec.upto ledgeDropsSpec)

/-- 'pennyfalllaw04.LedgeOvers', WHERE WHAT IT READS IS OF BULK AT MOST 1048576: true; the input reads as it did. -/
def ledgeOversUptoRow : OpenClaim := { program := "ytkeiajncmhkdmaa", sum := "78e0a2e0d972170e68c1c1c42008859dc882982ffb747052142456d799281f93", func := "pennyfall/pennyfalllaw04.LedgeOvers", spec := "ledgeOvers", unfollowed := true, recurses := true, plainKeys := false, apart := false, narrowed := true }
def LedgeOversUptoSaid : Prop := ledgeOversUptoRow.holds Try.pinned (OpenSpec.upto ledgeOversSpec)

/-- 'pennyfalllaw04.LedgeCounts', WHERE WHAT IT READS IS OF BULK AT MOST 1048576: true; the input reads as it did. -/
def ledgeCountsUptoRow : OpenClaim := { program := "ytkeiajncmhkdmaa", sum := "78e0a2e0d972170e68c1c1c42008859dc882982ffb747052142456d799281f93", func := "pennyfall/pennyfalllaw04.LedgeCounts", spec := "ledgeCounts", unfollowed := true, recurses := true, plainKeys := false, apart := false, narrowed := true }
def LedgeCountsUptoSaid : Prop := ledgeCountsUptoRow.holds Try.pinned (OpenSpec.upto ledgeCountsSpec)

/-- 'pennyfalllaw04.LedgeRounds', WHERE WHAT IT READS IS OF BULK AT MOST 1048576: true; the input reads as it did. -/
def ledgeRoundsUptoRow : OpenClaim := { program := "ytkeiajncmhkdmaa", sum := "78e0a2e0d972170e68c1c1c42008859dc882982ffb747052142456d799281f93", func := "pennyfall/pennyfalllaw04.LedgeRounds", spec := "ledgeRounds", unfollowed := true, recurses := true, plainKeys := false, apart := false, narrowed := true }
def LedgeRoundsUptoSaid : Prop := ledgeRoundsUptoRow.holds Try.pinned (OpenSpec.upto ledgeRoundsSpec)

/-- 'pennyfalllaw04.LedgeOrder', WHERE WHAT IT READS IS OF BULK AT MOST 1048576: true; the input reads as it did. -/
def ledgeOrderUptoRow : OpenClaim := { program := "ytkeiajncmhkdmaa", sum := "78e0a2e0d972170e68c1c1c42008859dc882982ffb747052142456d799281f93", func := "pennyfall/pennyfalllaw04.LedgeOrder", spec := "ledgeOrder", unfollowed := true, recurses := true, plainKeys := false, apart := false, narrowed := true }
def LedgeOrderUptoSaid : Prop := ledgeOrderUptoRow.holds Try.pinned (OpenSpec.upto ledgeOrderSpec)

/-- 'pennyfalllaw04.LedgeProved', WHERE WHAT IT READS IS OF BULK AT MOST 1048576: true; the input reads as it did. -/
def ledgeProvedUptoRow : OpenClaim := { program := "ytkeiajncmhkdmaa", sum := "78e0a2e0d972170e68c1c1c42008859dc882982ffb747052142456d799281f93", func := "pennyfall/pennyfalllaw04.LedgeProved", spec := "ledgeProved", unfollowed := true, recurses := true, plainKeys := false, apart := false, narrowed := true }
def LedgeProvedUptoSaid : Prop := ledgeProvedUptoRow.holds Try.pinned (OpenSpec.upto ledgeProvedSpec)

/-- 'pennyfalllaw04.LedgeSorted', WHERE WHAT IT READS IS OF BULK AT MOST 1048576: true; the input reads as it did. -/
def ledgeSortedUptoRow : OpenClaim := { program := "ytkeiajncmhkdmaa", sum := "78e0a2e0d972170e68c1c1c42008859dc882982ffb747052142456d799281f93", func := "pennyfall/pennyfalllaw04.LedgeSorted", spec := "ledgeSorted", unfollowed := true, recurses := true, plainKeys := false, apart := false, narrowed := true }
def LedgeSortedUptoSaid : Prop := ledgeSortedUptoRow.holds Try.pinned (OpenSpec.upto ledgeSortedSpec)

/-- 'pennyfalllaw04.LedgeEarlier', WHERE WHAT IT READS IS OF BULK AT MOST 1048576: true; the input reads as it did. -/
def ledgeEarlierUptoRow : OpenClaim := { program := "ytkeiajncmhkdmaa", sum := "78e0a2e0d972170e68c1c1c42008859dc882982ffb747052142456d799281f93", func := "pennyfall/pennyfalllaw04.LedgeEarlier", spec := "ledgeEarlier", unfollowed := true, recurses := true, plainKeys := false, apart := false, narrowed := true }
def LedgeEarlierUptoSaid : Prop := ledgeEarlierUptoRow.holds Try.pinned (OpenSpec.upto ledgeEarlierSpec)

/-- 'pennyfalllaw04.LedgeSummed', WHERE WHAT IT READS IS OF BULK AT MOST 1048576: true; the input reads as it did. -/
def ledgeSummedUptoRow : OpenClaim := { program := "ytkeiajncmhkdmaa", sum := "78e0a2e0d972170e68c1c1c42008859dc882982ffb747052142456d799281f93", func := "pennyfall/pennyfalllaw04.LedgeSummed", spec := "ledgeSummed", unfollowed := true, recurses := true, plainKeys := false, apart := false, narrowed := true }
def LedgeSummedUptoSaid : Prop := ledgeSummedUptoRow.holds Try.pinned (OpenSpec.upto ledgeSummedSpec)

/-- 'pennyfalllaw04.LedgeCounted', WHERE WHAT IT READS IS OF BULK AT MOST 1048576: true; the input reads as it did. -/
def ledgeCountedUptoRow : OpenClaim := { program := "ytkeiajncmhkdmaa", sum := "78e0a2e0d972170e68c1c1c42008859dc882982ffb747052142456d799281f93", func := "pennyfall/pennyfalllaw04.LedgeCounted", spec := "ledgeCounted", unfollowed := true, recurses := true, plainKeys := false, apart := false, narrowed := true }
def LedgeCountedUptoSaid : Prop := ledgeCountedUptoRow.holds Try.pinned (OpenSpec.upto ledgeCountedSpec)

/-- 'pennyfalllaw04.LedgeWheel', WHERE WHAT IT READS IS OF BULK AT MOST 1048576: true; the input reads as it did. -/
def ledgeWheelUptoRow : OpenClaim := { program := "ytkeiajncmhkdmaa", sum := "78e0a2e0d972170e68c1c1c42008859dc882982ffb747052142456d799281f93", func := "pennyfall/pennyfalllaw04.LedgeWheel", spec := "ledgeWheel", unfollowed := true, recurses := true, plainKeys := false, apart := false, narrowed := true }
def LedgeWheelUptoSaid : Prop := ledgeWheelUptoRow.holds Try.pinned (OpenSpec.upto ledgeWheelSpec)

/-- 'pennyfalllaw04.LedgeTurned', WHERE WHAT IT READS IS OF BULK AT MOST 1048576: true; the input reads as it did. -/
def ledgeTurnedUptoRow : OpenClaim := { program := "ytkeiajncmhkdmaa", sum := "78e0a2e0d972170e68c1c1c42008859dc882982ffb747052142456d799281f93", func := "pennyfall/pennyfalllaw04.LedgeTurned", spec := "ledgeTurned", unfollowed := true, recurses := true, plainKeys := false, apart := false, narrowed := true }
def LedgeTurnedUptoSaid : Prop := ledgeTurnedUptoRow.holds Try.pinned (OpenSpec.upto ledgeTurnedSpec)

/-- 'pennyfalllaw04.LedgeNext', WHERE WHAT IT READS IS OF BULK AT MOST 1048576: true; the input reads as it did. -/
def ledgeNextUptoRow : OpenClaim := { program := "ytkeiajncmhkdmaa", sum := "78e0a2e0d972170e68c1c1c42008859dc882982ffb747052142456d799281f93", func := "pennyfall/pennyfalllaw04.LedgeNext", spec := "ledgeNext", unfollowed := true, recurses := true, plainKeys := false, apart := false, narrowed := true }
def LedgeNextUptoSaid : Prop := ledgeNextUptoRow.holds Try.pinned (OpenSpec.upto ledgeNextSpec)

/-- 'pennyfalllaw04.LedgeKnown', WHERE WHAT IT READS IS OF BULK AT MOST 1048576: true; the input reads as it did. -/
def ledgeKnownUptoRow : OpenClaim := { program := "ytkeiajncmhkdmaa", sum := "78e0a2e0d972170e68c1c1c42008859dc882982ffb747052142456d799281f93", func := "pennyfall/pennyfalllaw04.LedgeKnown", spec := "ledgeKnown", unfollowed := true, recurses := true, plainKeys := false, apart := false, narrowed := true }
def LedgeKnownUptoSaid : Prop := ledgeKnownUptoRow.holds Try.pinned (OpenSpec.upto ledgeKnownSpec)

end Rows
end Go.Proofs.Ytkeiajncmhkdmaa
