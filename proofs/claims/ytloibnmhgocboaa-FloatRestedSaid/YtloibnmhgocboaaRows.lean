/-
  No cell of these rows narrows 'for every input' (looked for: loops, veiled, ifaces, maps, wideKeys, modest, calm, conditions, laid).
  DERIVED. THE GIVEN ROWS OF THIS SEAT. 15 by the template 'for every input the law returns true; each argument reads behind the call as it read before'; 0 by the template 'total and deterministic' (their statements: YtloibnmhgocboaaTotals.lean).
  GIVEN WITH THE SEED: the statements are not yours to turn. If you find one false, say at which input.
  Laid BY PROGRAM, IN A SANDBOX (cutbox-rows.mjs): the forced cells as the released guide's own fill.sh prints them over the translation 0071f6d9b8c3c0c7… (all of the seat's roots in one cut). By AI agents, Wed Nov 11 2026. No macro, syntax, notation, axiom, sorry.
-/
import Derived.Test.YtloibnmhgocboaaChecked
import GoSem.Claim
import GoSem.ClaimJoined
import GoSem.ClaimMapViews
import Derived.JoinedTies
import Derived.KernelRfl
namespace Go.Proofs.Ytloibnmhgocboaa
/- THE CELL 'sum', in the pinned program and in every row, IS THE sha256 OF THE DUMP (.gsa) THAT YtloibnmhgocboaaProg.lean LOADS. Nothing in Lean hashes anything: it is a label: what it is worth is what the hold of that sum in a sandbox is worth. -/
noncomputable def Try.pinned : Pinned := { name := "ytloibnmhgocboaa", sum := "0071f6d9b8c3c0c73f4ec914574b355d3503ccc9d34f5ed741460ee588172e81", checked := Try.checked }
namespace Rows
def none {H : Type} : Left H := { results := [], args := [] }

/-- 'pennyfalllaw10.FloatCoins': WHATEVER THE INPUT: true; the input reads as it did. -/
def floatCoinsSpec : ChangeSpec := { name := "floatCoins", fn := fun _ => fun
  | [d1, d2] => { results := [.lit (.bool true)], args := [d1, d2] }
  | _ => none }
def floatCoinsRow : OpenClaim := { program := "ytloibnmhgocboaa", sum := "0071f6d9b8c3c0c73f4ec914574b355d3503ccc9d34f5ed741460ee588172e81", func := "pennyfall/pennyfalllaw10.FloatCoins", spec := "floatCoins", unfollowed := true, recurses := true, plainKeys := false, apart := false }
def FloatCoinsSaid : Prop := floatCoinsRow.holds Try.pinned (OpenSpec.ofChange floatCoinsSpec)

/-- ITS FALSE NEIGHBOUR: 'it returns false'. Refute it at one input. -/
def floatCoinsWrong : ChangeSpec := { name := "floatCoins", fn := fun _ => fun
  | [d1, d2] => { results := [.lit (.bool false)], args := [d1, d2] }
  | _ => none }
def FloatCoinsWrongFalsely : Prop := floatCoinsRow.holds Try.pinned (OpenSpec.ofChange floatCoinsWrong)

/-- 'pennyfalllaw10.FloatFewests': WHATEVER THE INPUT: true; the input reads as it did. -/
def floatFewestsSpec : ChangeSpec := { name := "floatFewests", fn := fun _ => fun
  | [d1, d2] => { results := [.lit (.bool true)], args := [d1, d2] }
  | _ => none }
def floatFewestsRow : OpenClaim := { program := "ytloibnmhgocboaa", sum := "0071f6d9b8c3c0c73f4ec914574b355d3503ccc9d34f5ed741460ee588172e81", func := "pennyfall/pennyfalllaw10.FloatFewests", spec := "floatFewests", unfollowed := true, recurses := true, plainKeys := false, apart := false }
def FloatFewestsSaid : Prop := floatFewestsRow.holds Try.pinned (OpenSpec.ofChange floatFewestsSpec)

/-- ITS FALSE NEIGHBOUR: 'it returns false'. Refute it at one input. -/
def floatFewestsWrong : ChangeSpec := { name := "floatFewests", fn := fun _ => fun
  | [d1, d2] => { results := [.lit (.bool false)], args := [d1, d2] }
  | _ => none }
def FloatFewestsWrongFalsely : Prop := floatFewestsRow.holds Try.pinned (OpenSpec.ofChange floatFewestsWrong)

/-- 'pennyfalllaw10.FloatHeights': WHATEVER THE INPUT: true; the input reads as it did. -/
def floatHeightsSpec : ChangeSpec := { name := "floatHeights", fn := fun _ => fun
  | [d1, d2, d3] => { results := [.lit (.bool true)], args := [d1, d2, d3] }
  | _ => none }
def floatHeightsRow : OpenClaim := { program := "ytloibnmhgocboaa", sum := "0071f6d9b8c3c0c73f4ec914574b355d3503ccc9d34f5ed741460ee588172e81", func := "pennyfall/pennyfalllaw10.FloatHeights", spec := "floatHeights", unfollowed := true, recurses := true, plainKeys := false, apart := false }
def FloatHeightsSaid : Prop := floatHeightsRow.holds Try.pinned (OpenSpec.ofChange floatHeightsSpec)

/-- ITS FALSE NEIGHBOUR: 'it returns false'. Refute it at one input. -/
def floatHeightsWrong : ChangeSpec := { name := "floatHeights", fn := fun _ => fun
  | [d1, d2, d3] => { results := [.lit (.bool false)], args := [d1, d2, d3] }
  | _ => none }
def FloatHeightsWrongFalsely : Prop := floatHeightsRow.holds Try.pinned (OpenSpec.ofChange floatHeightsWrong)

/-- 'pennyfalllaw10.FloatBads': WHATEVER THE INPUT: true; the input reads as it did. -/
def floatBadsSpec : ChangeSpec := { name := "floatBads", fn := fun _ => fun
  | [d1, d2] => { results := [.lit (.bool true)], args := [d1, d2] }
  | _ => none }
def floatBadsRow : OpenClaim := { program := "ytloibnmhgocboaa", sum := "0071f6d9b8c3c0c73f4ec914574b355d3503ccc9d34f5ed741460ee588172e81", func := "pennyfall/pennyfalllaw10.FloatBads", spec := "floatBads", unfollowed := true, recurses := true, plainKeys := false, apart := false }
def FloatBadsSaid : Prop := floatBadsRow.holds Try.pinned (OpenSpec.ofChange floatBadsSpec)

/-- ITS FALSE NEIGHBOUR: 'it returns false'. Refute it at one input. -/
def floatBadsWrong : ChangeSpec := { name := "floatBads", fn := fun _ => fun
  | [d1, d2] => { results := [.lit (.bool false)], args := [d1, d2] }
  | _ => none }
def FloatBadsWrongFalsely : Prop := floatBadsRow.holds Try.pinned (OpenSpec.ofChange floatBadsWrong)

/-- 'pennyfalllaw10.FloatRests': WHATEVER THE INPUT: true; the input reads as it did. -/
def floatRestsSpec : ChangeSpec := { name := "floatRests", fn := fun _ => fun
  | [d] => { results := [.lit (.bool true)], args := [d] }
  | _ => none }
def floatRestsRow : OpenClaim := { program := "ytloibnmhgocboaa", sum := "0071f6d9b8c3c0c73f4ec914574b355d3503ccc9d34f5ed741460ee588172e81", func := "pennyfall/pennyfalllaw10.FloatRests", spec := "floatRests", unfollowed := true, recurses := true, plainKeys := false, apart := false }
def FloatRestsSaid : Prop := floatRestsRow.holds Try.pinned (OpenSpec.ofChange floatRestsSpec)

/-- ITS FALSE NEIGHBOUR: 'it returns false'. Refute it at one input. -/
def floatRestsWrong : ChangeSpec := { name := "floatRests", fn := fun _ => fun
  | [d] => { results := [.lit (.bool false)], args := [d] }
  | _ => none }
def FloatRestsWrongFalsely : Prop := floatRestsRow.holds Try.pinned (OpenSpec.ofChange floatRestsWrong)

/-- 'pennyfalllaw10.FloatWays': WHATEVER THE INPUT: true; the input reads as it did. -/
def floatWaysSpec : ChangeSpec := { name := "floatWays", fn := fun _ => fun
  | [d1, d2, d3] => { results := [.lit (.bool true)], args := [d1, d2, d3] }
  | _ => none }
def floatWaysRow : OpenClaim := { program := "ytloibnmhgocboaa", sum := "0071f6d9b8c3c0c73f4ec914574b355d3503ccc9d34f5ed741460ee588172e81", func := "pennyfall/pennyfalllaw10.FloatWays", spec := "floatWays", unfollowed := true, recurses := true, plainKeys := false, apart := false }
def FloatWaysSaid : Prop := floatWaysRow.holds Try.pinned (OpenSpec.ofChange floatWaysSpec)

/-- ITS FALSE NEIGHBOUR: 'it returns false'. Refute it at one input. -/
def floatWaysWrong : ChangeSpec := { name := "floatWays", fn := fun _ => fun
  | [d1, d2, d3] => { results := [.lit (.bool false)], args := [d1, d2, d3] }
  | _ => none }
def FloatWaysWrongFalsely : Prop := floatWaysRow.holds Try.pinned (OpenSpec.ofChange floatWaysWrong)

/-- 'pennyfalllaw10.FloatProved': WHATEVER THE INPUT: true; the input reads as it did. -/
def floatProvedSpec : ChangeSpec := { name := "floatProved", fn := fun _ => fun
  | [d1, d2, d3, d4] => { results := [.lit (.bool true)], args := [d1, d2, d3, d4] }
  | _ => none }
def floatProvedRow : OpenClaim := { program := "ytloibnmhgocboaa", sum := "0071f6d9b8c3c0c73f4ec914574b355d3503ccc9d34f5ed741460ee588172e81", func := "pennyfall/pennyfalllaw10.FloatProved", spec := "floatProved", unfollowed := true, recurses := true, plainKeys := false, apart := false }
def FloatProvedSaid : Prop := floatProvedRow.holds Try.pinned (OpenSpec.ofChange floatProvedSpec)

/-- ITS FALSE NEIGHBOUR: 'it returns false'. Refute it at one input. -/
def floatProvedWrong : ChangeSpec := { name := "floatProved", fn := fun _ => fun
  | [d1, d2, d3, d4] => { results := [.lit (.bool false)], args := [d1, d2, d3, d4] }
  | _ => none }
def FloatProvedWrongFalsely : Prop := floatProvedRow.holds Try.pinned (OpenSpec.ofChange floatProvedWrong)

/-- 'pennyfalllaw10.FloatGreedy': WHATEVER THE INPUT: true; the input reads as it did. -/
def floatGreedySpec : ChangeSpec := { name := "floatGreedy", fn := fun _ => fun
  | [d1, d2] => { results := [.lit (.bool true)], args := [d1, d2] }
  | _ => none }
def floatGreedyRow : OpenClaim := { program := "ytloibnmhgocboaa", sum := "0071f6d9b8c3c0c73f4ec914574b355d3503ccc9d34f5ed741460ee588172e81", func := "pennyfall/pennyfalllaw10.FloatGreedy", spec := "floatGreedy", unfollowed := true, recurses := true, plainKeys := false, apart := false }
def FloatGreedySaid : Prop := floatGreedyRow.holds Try.pinned (OpenSpec.ofChange floatGreedySpec)

/-- ITS FALSE NEIGHBOUR: 'it returns false'. Refute it at one input. -/
def floatGreedyWrong : ChangeSpec := { name := "floatGreedy", fn := fun _ => fun
  | [d1, d2] => { results := [.lit (.bool false)], args := [d1, d2] }
  | _ => none }
def FloatGreedyWrongFalsely : Prop := floatGreedyRow.holds Try.pinned (OpenSpec.ofChange floatGreedyWrong)

/-- 'pennyfalllaw10.FloatRested': WHATEVER THE INPUT: true; the input reads as it did. -/
def floatRestedSpec : ChangeSpec := { name := "floatRested", fn := fun _ => fun
  | [d1, d2] => { results := [.lit (.bool true)], args := [d1, d2] }
  | _ => none }
def floatRestedRow : OpenClaim := { program := "ytloibnmhgocboaa", sum := "0071f6d9b8c3c0c73f4ec914574b355d3503ccc9d34f5ed741460ee588172e81", func := "pennyfall/pennyfalllaw10.FloatRested", spec := "floatRested", unfollowed := true, recurses := true, plainKeys := false, apart := false }
def FloatRestedSaid : Prop := floatRestedRow.holds Try.pinned (OpenSpec.ofChange floatRestedSpec)

/-- ITS FALSE NEIGHBOUR: 'it returns false'. Refute it at one input. -/
def floatRestedWrong : ChangeSpec := { name := "floatRested", fn := fun _ => fun
  | [d1, d2] => { results := [.lit (.bool false)], args := [d1, d2] }
  | _ => none }
def FloatRestedWrongFalsely : Prop := floatRestedRow.holds Try.pinned (OpenSpec.ofChange floatRestedWrong)

/-- 'pennyfalllaw10.FloatTwo': WHATEVER THE INPUT: true; the input reads as it did. -/
def floatTwoSpec : ChangeSpec := { name := "floatTwo", fn := fun _ => fun
  | [d1, d2, d3] => { results := [.lit (.bool true)], args := [d1, d2, d3] }
  | _ => none }
def floatTwoRow : OpenClaim := { program := "ytloibnmhgocboaa", sum := "0071f6d9b8c3c0c73f4ec914574b355d3503ccc9d34f5ed741460ee588172e81", func := "pennyfall/pennyfalllaw10.FloatTwo", spec := "floatTwo", unfollowed := true, recurses := true, plainKeys := false, apart := false }
def FloatTwoSaid : Prop := floatTwoRow.holds Try.pinned (OpenSpec.ofChange floatTwoSpec)

/-- ITS FALSE NEIGHBOUR: 'it returns false'. Refute it at one input. -/
def floatTwoWrong : ChangeSpec := { name := "floatTwo", fn := fun _ => fun
  | [d1, d2, d3] => { results := [.lit (.bool false)], args := [d1, d2, d3] }
  | _ => none }
def FloatTwoWrongFalsely : Prop := floatTwoRow.holds Try.pinned (OpenSpec.ofChange floatTwoWrong)

/-- 'pennyfalllaw10.FloatCounted': WHATEVER THE INPUT: true; the input reads as it did. -/
def floatCountedSpec : ChangeSpec := { name := "floatCounted", fn := fun _ => fun
  | [d1, d2] => { results := [.lit (.bool true)], args := [d1, d2] }
  | _ => none }
def floatCountedRow : OpenClaim := { program := "ytloibnmhgocboaa", sum := "0071f6d9b8c3c0c73f4ec914574b355d3503ccc9d34f5ed741460ee588172e81", func := "pennyfall/pennyfalllaw10.FloatCounted", spec := "floatCounted", unfollowed := true, recurses := true, plainKeys := false, apart := false }
def FloatCountedSaid : Prop := floatCountedRow.holds Try.pinned (OpenSpec.ofChange floatCountedSpec)

/-- ITS FALSE NEIGHBOUR: 'it returns false'. Refute it at one input. -/
def floatCountedWrong : ChangeSpec := { name := "floatCounted", fn := fun _ => fun
  | [d1, d2] => { results := [.lit (.bool false)], args := [d1, d2] }
  | _ => none }
def FloatCountedWrongFalsely : Prop := floatCountedRow.holds Try.pinned (OpenSpec.ofChange floatCountedWrong)

/-- 'pennyfalllaw10.FloatAdded': WHATEVER THE INPUT: true; the input reads as it did. -/
def floatAddedSpec : ChangeSpec := { name := "floatAdded", fn := fun _ => fun
  | [d1, d2, d3, d4] => { results := [.lit (.bool true)], args := [d1, d2, d3, d4] }
  | _ => none }
def floatAddedRow : OpenClaim := { program := "ytloibnmhgocboaa", sum := "0071f6d9b8c3c0c73f4ec914574b355d3503ccc9d34f5ed741460ee588172e81", func := "pennyfall/pennyfalllaw10.FloatAdded", spec := "floatAdded", unfollowed := true, recurses := true, plainKeys := false, apart := false }
def FloatAddedSaid : Prop := floatAddedRow.holds Try.pinned (OpenSpec.ofChange floatAddedSpec)

/-- ITS FALSE NEIGHBOUR: 'it returns false'. Refute it at one input. -/
def floatAddedWrong : ChangeSpec := { name := "floatAdded", fn := fun _ => fun
  | [d1, d2, d3, d4] => { results := [.lit (.bool false)], args := [d1, d2, d3, d4] }
  | _ => none }
def FloatAddedWrongFalsely : Prop := floatAddedRow.holds Try.pinned (OpenSpec.ofChange floatAddedWrong)

/-- 'pennyfalllaw10.FloatMore': WHATEVER THE INPUT: true; the input reads as it did. -/
def floatMoreSpec : ChangeSpec := { name := "floatMore", fn := fun _ => fun
  | [d1, d2, d3] => { results := [.lit (.bool true)], args := [d1, d2, d3] }
  | _ => none }
def floatMoreRow : OpenClaim := { program := "ytloibnmhgocboaa", sum := "0071f6d9b8c3c0c73f4ec914574b355d3503ccc9d34f5ed741460ee588172e81", func := "pennyfall/pennyfalllaw10.FloatMore", spec := "floatMore", unfollowed := true, recurses := true, plainKeys := false, apart := false }
def FloatMoreSaid : Prop := floatMoreRow.holds Try.pinned (OpenSpec.ofChange floatMoreSpec)

/-- ITS FALSE NEIGHBOUR: 'it returns false'. Refute it at one input. -/
def floatMoreWrong : ChangeSpec := { name := "floatMore", fn := fun _ => fun
  | [d1, d2, d3] => { results := [.lit (.bool false)], args := [d1, d2, d3] }
  | _ => none }
def FloatMoreWrongFalsely : Prop := floatMoreRow.holds Try.pinned (OpenSpec.ofChange floatMoreWrong)

/-- 'pennyfalllaw10.FloatStocked': WHATEVER THE INPUT: true; the input reads as it did. -/
def floatStockedSpec : ChangeSpec := { name := "floatStocked", fn := fun _ => fun
  | [d1, d2, d3, d4] => { results := [.lit (.bool true)], args := [d1, d2, d3, d4] }
  | _ => none }
def floatStockedRow : OpenClaim := { program := "ytloibnmhgocboaa", sum := "0071f6d9b8c3c0c73f4ec914574b355d3503ccc9d34f5ed741460ee588172e81", func := "pennyfall/pennyfalllaw10.FloatStocked", spec := "floatStocked", unfollowed := true, recurses := true, plainKeys := false, apart := false }
def FloatStockedSaid : Prop := floatStockedRow.holds Try.pinned (OpenSpec.ofChange floatStockedSpec)

/-- ITS FALSE NEIGHBOUR: 'it returns false'. Refute it at one input. -/
def floatStockedWrong : ChangeSpec := { name := "floatStocked", fn := fun _ => fun
  | [d1, d2, d3, d4] => { results := [.lit (.bool false)], args := [d1, d2, d3, d4] }
  | _ => none }
def FloatStockedWrongFalsely : Prop := floatStockedRow.holds Try.pinned (OpenSpec.ofChange floatStockedWrong)

/-- 'pennyfalllaw10.FloatKnown': WHATEVER THE INPUT: true; the input reads as it did. -/
def floatKnownSpec : ChangeSpec := { name := "floatKnown", fn := fun _ => fun
  | [] => { results := [.lit (.bool true)], args := [] }
  | _ => none }
def floatKnownRow : OpenClaim := { program := "ytloibnmhgocboaa", sum := "0071f6d9b8c3c0c73f4ec914574b355d3503ccc9d34f5ed741460ee588172e81", func := "pennyfall/pennyfalllaw10.FloatKnown", spec := "floatKnown", unfollowed := true, recurses := true, plainKeys := false, apart := false }
def FloatKnownSaid : Prop := floatKnownRow.holds Try.pinned (OpenSpec.ofChange floatKnownSpec)

/-- ITS FALSE NEIGHBOUR: 'it returns false'. Refute it at one input. -/
def floatKnownWrong : ChangeSpec := { name := "floatKnown", fn := fun _ => fun
  | [] => { results := [.lit (.bool false)], args := [] }
  | _ => none }
def FloatKnownWrongFalsely : Prop := floatKnownRow.holds Try.pinned (OpenSpec.ofChange floatKnownWrong)

/- THE SECOND FORM. 'bulk': how many values and letters a reading holds, each counted each time it is reached (what is shared counts as often as it is met; a slice's spare places count too). A statement '..UptoSaid' is the law's where the arguments, and the package variables that the reading takes, are together of bulk at most 1048576: NARROWER than '..Said'. Prove '..Said' where nothing that the law and all that it calls make is longer than what came in: it says more and counts as full. Else prove '..UptoSaid'. A law counts once. -/
mutual
def uptoBulk {H : Type} : DataW H → Nat
  | .lit (.string bytes) => bytes.length + 1
  | .lit _ => 1
  | .nil => 1
  | .ptr d => uptoBulk d + 1
  | .slice elems spare => uptoBulkAll elems + uptoBulkAll spare + 1
  | .agg parts => uptoBulkAll parts + 1
  | .iface _ d => uptoBulk d + 1
  | .map entries => uptoBulkEntries entries + 1
  | .held _ => 1
def uptoBulkAll {H : Type} : List (DataW H) → Nat
  | [] => 0
  | d :: r => uptoBulk d + uptoBulkAll r
def uptoBulkEntries {H : Type} : List (Lit × DataW H) → Nat
  | [] => 0
  | x :: r => uptoBulkEntry x + uptoBulkEntries r
def uptoBulkEntry {H : Type} : Lit × DataW H → Nat
  | (.string bytes, d) => bytes.length + uptoBulk d + 1
  | (_, d) => uptoBulk d + 1
 end
def uptoSmall : (H : Type) → List (DataW H) → Bool := fun _ ds => decide (uptoBulkAll ds ≤ 1048576)
def OpenSpec.upto (s : _root_.Go.ChangeSpec) : _root_.Go.OpenSpec := { _root_.Go.OpenSpec.ofChange s with cond := some uptoSmall }

/-- 'pennyfalllaw10.FloatCoins', WHERE WHAT IT READS IS OF BULK AT MOST 1048576: true; the input reads as it did. -/
def floatCoinsUptoRow : OpenClaim := { program := "ytloibnmhgocboaa", sum := "0071f6d9b8c3c0c73f4ec914574b355d3503ccc9d34f5ed741460ee588172e81", func := "pennyfall/pennyfalllaw10.FloatCoins", spec := "floatCoins", unfollowed := true, recurses := true, plainKeys := false, apart := false, narrowed := true }
def FloatCoinsUptoSaid : Prop := floatCoinsUptoRow.holds Try.pinned (OpenSpec.upto floatCoinsSpec)

/-- 'pennyfalllaw10.FloatFewests', WHERE WHAT IT READS IS OF BULK AT MOST 1048576: true; the input reads as it did. -/
def floatFewestsUptoRow : OpenClaim := { program := "ytloibnmhgocboaa", sum := "0071f6d9b8c3c0c73f4ec914574b355d3503ccc9d34f5ed741460ee588172e81", func := "pennyfall/pennyfalllaw10.FloatFewests", spec := "floatFewests", unfollowed := true, recurses := true, plainKeys := false, apart := false, narrowed := true }
def FloatFewestsUptoSaid : Prop := floatFewestsUptoRow.holds Try.pinned (OpenSpec.upto floatFewestsSpec)

/-- 'pennyfalllaw10.FloatHeights', WHERE WHAT IT READS IS OF BULK AT MOST 1048576: true; the input reads as it did. -/
def floatHeightsUptoRow : OpenClaim := { program := "ytloibnmhgocboaa", sum := "0071f6d9b8c3c0c73f4ec914574b355d3503ccc9d34f5ed741460ee588172e81", func := "pennyfall/pennyfalllaw10.FloatHeights", spec := "floatHeights", unfollowed := true, recurses := true, plainKeys := false, apart := false, narrowed := true }
def FloatHeightsUptoSaid : Prop := floatHeightsUptoRow.holds Try.pinned (OpenSpec.upto floatHeightsSpec)

/-- 'pennyfalllaw10.FloatBads', WHERE WHAT IT READS IS OF BULK AT MOST 1048576: true; the input reads as it did. -/
def floatBadsUptoRow : OpenClaim := { program := "ytloibnmhgocboaa", sum := "0071f6d9b8c3c0c73f4ec914574b355d3503ccc9d34f5ed741460ee588172e81", func := "pennyfall/pennyfalllaw10.FloatBads", spec := "floatBads", unfollowed := true, recurses := true, plainKeys := false, apart := false, narrowed := true }
def FloatBadsUptoSaid : Prop := floatBadsUptoRow.holds Try.pinned (OpenSpec.upto floatBadsSpec)

/-- 'pennyfalllaw10.FloatRests', WHERE WHAT IT READS IS OF BULK AT MOST 1048576: true; the input reads as it did. -/
def floatRestsUptoRow : OpenClaim := { program := "ytloibnmhgocboaa", sum := "0071f6d9b8c3c0c73f4ec914574b355d3503ccc9d34f5ed741460ee588172e81", func := "pennyfall/pennyfalllaw10.FloatRests", spec := "floatRests", unfollowed := true, recurses := true, plainKeys := false, apart := false, narrowed := true }
def FloatRestsUptoSaid : Prop := floatRestsUptoRow.holds Try.pinned (OpenSpec.upto floatRestsSpec)

/-- 'pennyfalllaw10.FloatWays', WHERE WHAT IT READS IS OF BULK AT MOST 1048576: true; the input reads as it did. -/
def floatWaysUptoRow : OpenClaim := { program := "ytloibnmhgocboaa", sum := "0071f6d9b8c3c0c73f4ec914574b355d3503ccc9d34f5ed741460ee588172e81", func := "pennyfall/pennyfalllaw10.FloatWays", spec := "floatWays", unfollowed := true, recurses := true, plainKeys := false, apart := false, narrowed := true }
def FloatWaysUptoSaid : Prop := floatWaysUptoRow.holds Try.pinned (OpenSpec.upto floatWaysSpec)

/-- 'pennyfalllaw10.FloatProved', WHERE WHAT IT READS IS OF BULK AT MOST 1048576: true; the input reads as it did. -/
def floatProvedUptoRow : OpenClaim := { program := "ytloibnmhgocboaa", sum := "0071f6d9b8c3c0c73f4ec914574b355d3503ccc9d34f5ed741460ee588172e81", func := "pennyfall/pennyfalllaw10.FloatProved", spec := "floatProved", unfollowed := true, recurses := true, plainKeys := false, apart := false, narrowed := true }
def FloatProvedUptoSaid : Prop := floatProvedUptoRow.holds Try.pinned (OpenSpec.upto floatProvedSpec)

/-- 'pennyfalllaw10.FloatGreedy', WHERE WHAT IT READS IS OF BULK AT MOST 1048576: true; the input reads as it did. -/
def floatGreedyUptoRow : OpenClaim := { program := "ytloibnmhgocboaa", sum := "0071f6d9b8c3c0c73f4ec914574b355d3503ccc9d34f5ed741460ee588172e81", func := "pennyfall/pennyfalllaw10.FloatGreedy", spec := "floatGreedy", unfollowed := true, recurses := true, plainKeys := false, apart := false, narrowed := true }
def FloatGreedyUptoSaid : Prop := floatGreedyUptoRow.holds Try.pinned (OpenSpec.upto floatGreedySpec)

/-- 'pennyfalllaw10.FloatRested', WHERE WHAT IT READS IS OF BULK AT MOST 1048576: true; the input reads as it did. -/
def floatRestedUptoRow : OpenClaim := { program := "ytloibnmhgocboaa", sum := "0071f6d9b8c3c0c73f4ec914574b355d3503ccc9d34f5ed741460ee588172e81", func := "pennyfall/pennyfalllaw10.FloatRested", spec := "floatRested", unfollowed := true, recurses := true, plainKeys := false, apart := false, narrowed := true }
def FloatRestedUptoSaid : Prop := floatRestedUptoRow.holds Try.pinned (OpenSpec.upto floatRestedSpec)

/-- 'pennyfalllaw10.FloatTwo', WHERE WHAT IT READS IS OF BULK AT MOST 1048576: true; the input reads as it did. -/
def floatTwoUptoRow : OpenClaim := { program := "ytloibnmhgocboaa", sum := "0071f6d9b8c3c0c73f4ec914574b355d3503ccc9d34f5ed741460ee588172e81", func := "pennyfall/pennyfalllaw10.FloatTwo", spec := "floatTwo", unfollowed := true, recurses := true, plainKeys := false, apart := false, narrowed := true }
def FloatTwoUptoSaid : Prop := floatTwoUptoRow.holds Try.pinned (OpenSpec.upto floatTwoSpec)

/-- 'pennyfalllaw10.FloatCounted', WHERE WHAT IT READS IS OF BULK AT MOST 1048576: true; the input reads as it did. -/
def floatCountedUptoRow : OpenClaim := { program := "ytloibnmhgocboaa", sum := "0071f6d9b8c3c0c73f4ec914574b355d3503ccc9d34f5ed741460ee588172e81", func := "pennyfall/pennyfalllaw10.FloatCounted", spec := "floatCounted", unfollowed := true, recurses := true, plainKeys := false, apart := false, narrowed := true }
def FloatCountedUptoSaid : Prop := floatCountedUptoRow.holds Try.pinned (OpenSpec.upto floatCountedSpec)

/-- 'pennyfalllaw10.FloatAdded', WHERE WHAT IT READS IS OF BULK AT MOST 1048576: true; the input reads as it did. -/
def floatAddedUptoRow : OpenClaim := { program := "ytloibnmhgocboaa", sum := "0071f6d9b8c3c0c73f4ec914574b355d3503ccc9d34f5ed741460ee588172e81", func := "pennyfall/pennyfalllaw10.FloatAdded", spec := "floatAdded", unfollowed := true, recurses := true, plainKeys := false, apart := false, narrowed := true }
def FloatAddedUptoSaid : Prop := floatAddedUptoRow.holds Try.pinned (OpenSpec.upto floatAddedSpec)

/-- 'pennyfalllaw10.FloatMore', WHERE WHAT IT READS IS OF BULK AT MOST 1048576: true; the input reads as it did. -/
def floatMoreUptoRow : OpenClaim := { program := "ytloibnmhgocboaa", sum := "0071f6d9b8c3c0c73f4ec914574b355d3503ccc9d34f5ed741460ee588172e81", func := "pennyfall/pennyfalllaw10.FloatMore", spec := "floatMore", unfollowed := true, recurses := true, plainKeys := false, apart := false, narrowed := true }
def FloatMoreUptoSaid : Prop := floatMoreUptoRow.holds Try.pinned (OpenSpec.upto floatMoreSpec)

/-- 'pennyfalllaw10.FloatStocked', WHERE WHAT IT READS IS OF BULK AT MOST 1048576: true; the input reads as it did. -/
def floatStockedUptoRow : OpenClaim := { program := "ytloibnmhgocboaa", sum := "0071f6d9b8c3c0c73f4ec914574b355d3503ccc9d34f5ed741460ee588172e81", func := "pennyfall/pennyfalllaw10.FloatStocked", spec := "floatStocked", unfollowed := true, recurses := true, plainKeys := false, apart := false, narrowed := true }
def FloatStockedUptoSaid : Prop := floatStockedUptoRow.holds Try.pinned (OpenSpec.upto floatStockedSpec)

/-- 'pennyfalllaw10.FloatKnown', WHERE WHAT IT READS IS OF BULK AT MOST 1048576: true; the input reads as it did. -/
def floatKnownUptoRow : OpenClaim := { program := "ytloibnmhgocboaa", sum := "0071f6d9b8c3c0c73f4ec914574b355d3503ccc9d34f5ed741460ee588172e81", func := "pennyfall/pennyfalllaw10.FloatKnown", spec := "floatKnown", unfollowed := true, recurses := true, plainKeys := false, apart := false, narrowed := true }
def FloatKnownUptoSaid : Prop := floatKnownUptoRow.holds Try.pinned (OpenSpec.upto floatKnownSpec)

end Rows
end Go.Proofs.Ytloibnmhgocboaa
