/-
  No cell of these rows narrows 'for every input' (looked for: loops, veiled, ifaces, maps, wideKeys, modest, calm, conditions, laid).
  DERIVED. THE GIVEN ROWS OF THIS SEAT. 14 by the template 'for every input the law returns true; each argument reads behind the call as it read before'; 0 by the template 'total and deterministic' (their statements: YtaekjnjignlmoaaTotals.lean).
  GIVEN WITH THE SEED: the statements are not yours to turn. If you find one false, say at which input.
  Laid BY PROGRAM, IN A SANDBOX (cutbox-rows.mjs): the forced cells as the released guide's own fill.sh prints them over the translation 22087ca182162b3b… (all of the seat's roots in one cut). By AI agents, Wed Nov 11 2026. No macro, syntax, notation, axiom, sorry.
-/
import Derived.Test.YtaekjnjignlmoaaChecked
import GoSem.Claim
import GoSem.ClaimJoined
import GoSem.ClaimMapViews
import Derived.JoinedTies
import Derived.KernelRfl
namespace Go.Proofs.Ytaekjnjignlmoaa
/- THE CELL 'sum', in the pinned program and in every row, IS THE sha256 OF THE DUMP (.gsa) THAT YtaekjnjignlmoaaProg.lean LOADS. Nothing in Lean hashes anything: it is a label: what it is worth is what the hold of that sum in a sandbox is worth. -/
noncomputable def Try.pinned : Pinned := { name := "ytaekjnjignlmoaa", sum := "22087ca182162b3b8420147865fb1c6e3d791b88eaca9e350e15de1fdf4d056e", checked := Try.checked }
namespace Rows
def none {H : Type} : Left H := { results := [], args := [] }

/-- 'pennyfalllaw07.RoundPiers': WHATEVER THE INPUT: true; the input reads as it did. -/
def roundPiersSpec : ChangeSpec := { name := "roundPiers", fn := fun _ => fun
  | [d1, d2] => { results := [.lit (.bool true)], args := [d1, d2] }
  | _ => none }
def roundPiersRow : OpenClaim := { program := "ytaekjnjignlmoaa", sum := "22087ca182162b3b8420147865fb1c6e3d791b88eaca9e350e15de1fdf4d056e", func := "pennyfall/pennyfalllaw07.RoundPiers", spec := "roundPiers", unfollowed := true, recurses := true, plainKeys := false, apart := false }
def RoundPiersSaid : Prop := roundPiersRow.holds Try.pinned (OpenSpec.ofChange roundPiersSpec)

/-- ITS FALSE NEIGHBOUR: 'it returns false'. Refute it at one input. -/
def roundPiersWrong : ChangeSpec := { name := "roundPiers", fn := fun _ => fun
  | [d1, d2] => { results := [.lit (.bool false)], args := [d1, d2] }
  | _ => none }
def RoundPiersWrongFalsely : Prop := roundPiersRow.holds Try.pinned (OpenSpec.ofChange roundPiersWrong)

/-- 'pennyfalllaw07.RoundLengths': WHATEVER THE INPUT: true; the input reads as it did. -/
def roundLengthsSpec : ChangeSpec := { name := "roundLengths", fn := fun _ => fun
  | [d] => { results := [.lit (.bool true)], args := [d] }
  | _ => none }
def roundLengthsRow : OpenClaim := { program := "ytaekjnjignlmoaa", sum := "22087ca182162b3b8420147865fb1c6e3d791b88eaca9e350e15de1fdf4d056e", func := "pennyfall/pennyfalllaw07.RoundLengths", spec := "roundLengths", unfollowed := true, recurses := true, plainKeys := false, apart := false }
def RoundLengthsSaid : Prop := roundLengthsRow.holds Try.pinned (OpenSpec.ofChange roundLengthsSpec)

/-- ITS FALSE NEIGHBOUR: 'it returns false'. Refute it at one input. -/
def roundLengthsWrong : ChangeSpec := { name := "roundLengths", fn := fun _ => fun
  | [d] => { results := [.lit (.bool false)], args := [d] }
  | _ => none }
def RoundLengthsWrongFalsely : Prop := roundLengthsRow.holds Try.pinned (OpenSpec.ofChange roundLengthsWrong)

/-- 'pennyfalllaw07.RoundTimes': WHATEVER THE INPUT: true; the input reads as it did. -/
def roundTimesSpec : ChangeSpec := { name := "roundTimes", fn := fun _ => fun
  | [d1, d2] => { results := [.lit (.bool true)], args := [d1, d2] }
  | _ => none }
def roundTimesRow : OpenClaim := { program := "ytaekjnjignlmoaa", sum := "22087ca182162b3b8420147865fb1c6e3d791b88eaca9e350e15de1fdf4d056e", func := "pennyfall/pennyfalllaw07.RoundTimes", spec := "roundTimes", unfollowed := true, recurses := true, plainKeys := false, apart := false }
def RoundTimesSaid : Prop := roundTimesRow.holds Try.pinned (OpenSpec.ofChange roundTimesSpec)

/-- ITS FALSE NEIGHBOUR: 'it returns false'. Refute it at one input. -/
def roundTimesWrong : ChangeSpec := { name := "roundTimes", fn := fun _ => fun
  | [d1, d2] => { results := [.lit (.bool false)], args := [d1, d2] }
  | _ => none }
def RoundTimesWrongFalsely : Prop := roundTimesRow.holds Try.pinned (OpenSpec.ofChange roundTimesWrong)

/-- 'pennyfalllaw07.RoundBounds': WHATEVER THE INPUT: true; the input reads as it did. -/
def roundBoundsSpec : ChangeSpec := { name := "roundBounds", fn := fun _ => fun
  | [d1, d2] => { results := [.lit (.bool true)], args := [d1, d2] }
  | _ => none }
def roundBoundsRow : OpenClaim := { program := "ytaekjnjignlmoaa", sum := "22087ca182162b3b8420147865fb1c6e3d791b88eaca9e350e15de1fdf4d056e", func := "pennyfall/pennyfalllaw07.RoundBounds", spec := "roundBounds", unfollowed := true, recurses := true, plainKeys := false, apart := false }
def RoundBoundsSaid : Prop := roundBoundsRow.holds Try.pinned (OpenSpec.ofChange roundBoundsSpec)

/-- ITS FALSE NEIGHBOUR: 'it returns false'. Refute it at one input. -/
def roundBoundsWrong : ChangeSpec := { name := "roundBounds", fn := fun _ => fun
  | [d1, d2] => { results := [.lit (.bool false)], args := [d1, d2] }
  | _ => none }
def RoundBoundsWrongFalsely : Prop := roundBoundsRow.holds Try.pinned (OpenSpec.ofChange roundBoundsWrong)

/-- 'pennyfalllaw07.RoundClashes': WHATEVER THE INPUT: true; the input reads as it did. -/
def roundClashesSpec : ChangeSpec := { name := "roundClashes", fn := fun _ => fun
  | [d1, d2] => { results := [.lit (.bool true)], args := [d1, d2] }
  | _ => none }
def roundClashesRow : OpenClaim := { program := "ytaekjnjignlmoaa", sum := "22087ca182162b3b8420147865fb1c6e3d791b88eaca9e350e15de1fdf4d056e", func := "pennyfall/pennyfalllaw07.RoundClashes", spec := "roundClashes", unfollowed := true, recurses := true, plainKeys := false, apart := false }
def RoundClashesSaid : Prop := roundClashesRow.holds Try.pinned (OpenSpec.ofChange roundClashesSpec)

/-- ITS FALSE NEIGHBOUR: 'it returns false'. Refute it at one input. -/
def roundClashesWrong : ChangeSpec := { name := "roundClashes", fn := fun _ => fun
  | [d1, d2] => { results := [.lit (.bool false)], args := [d1, d2] }
  | _ => none }
def RoundClashesWrongFalsely : Prop := roundClashesRow.holds Try.pinned (OpenSpec.ofChange roundClashesWrong)

/-- 'pennyfalllaw07.RoundProved': WHATEVER THE INPUT: true; the input reads as it did. -/
def roundProvedSpec : ChangeSpec := { name := "roundProved", fn := fun _ => fun
  | [d1, d2, d3] => { results := [.lit (.bool true)], args := [d1, d2, d3] }
  | _ => none }
def roundProvedRow : OpenClaim := { program := "ytaekjnjignlmoaa", sum := "22087ca182162b3b8420147865fb1c6e3d791b88eaca9e350e15de1fdf4d056e", func := "pennyfall/pennyfalllaw07.RoundProved", spec := "roundProved", unfollowed := true, recurses := true, plainKeys := false, apart := false }
def RoundProvedSaid : Prop := roundProvedRow.holds Try.pinned (OpenSpec.ofChange roundProvedSpec)

/-- ITS FALSE NEIGHBOUR: 'it returns false'. Refute it at one input. -/
def roundProvedWrong : ChangeSpec := { name := "roundProved", fn := fun _ => fun
  | [d1, d2, d3] => { results := [.lit (.bool false)], args := [d1, d2, d3] }
  | _ => none }
def RoundProvedWrongFalsely : Prop := roundProvedRow.holds Try.pinned (OpenSpec.ofChange roundProvedWrong)

/-- 'pennyfalllaw07.RoundEither': WHATEVER THE INPUT: true; the input reads as it did. -/
def roundEitherSpec : ChangeSpec := { name := "roundEither", fn := fun _ => fun
  | [d1, d2, d3] => { results := [.lit (.bool true)], args := [d1, d2, d3] }
  | _ => none }
def roundEitherRow : OpenClaim := { program := "ytaekjnjignlmoaa", sum := "22087ca182162b3b8420147865fb1c6e3d791b88eaca9e350e15de1fdf4d056e", func := "pennyfall/pennyfalllaw07.RoundEither", spec := "roundEither", unfollowed := true, recurses := true, plainKeys := false, apart := false }
def RoundEitherSaid : Prop := roundEitherRow.holds Try.pinned (OpenSpec.ofChange roundEitherSpec)

/-- ITS FALSE NEIGHBOUR: 'it returns false'. Refute it at one input. -/
def roundEitherWrong : ChangeSpec := { name := "roundEither", fn := fun _ => fun
  | [d1, d2, d3] => { results := [.lit (.bool false)], args := [d1, d2, d3] }
  | _ => none }
def RoundEitherWrongFalsely : Prop := roundEitherRow.holds Try.pinned (OpenSpec.ofChange roundEitherWrong)

/-- 'pennyfalllaw07.RoundWithin': WHATEVER THE INPUT: true; the input reads as it did. -/
def roundWithinSpec : ChangeSpec := { name := "roundWithin", fn := fun _ => fun
  | [d1, d2, d3] => { results := [.lit (.bool true)], args := [d1, d2, d3] }
  | _ => none }
def roundWithinRow : OpenClaim := { program := "ytaekjnjignlmoaa", sum := "22087ca182162b3b8420147865fb1c6e3d791b88eaca9e350e15de1fdf4d056e", func := "pennyfall/pennyfalllaw07.RoundWithin", spec := "roundWithin", unfollowed := true, recurses := true, plainKeys := false, apart := false }
def RoundWithinSaid : Prop := roundWithinRow.holds Try.pinned (OpenSpec.ofChange roundWithinSpec)

/-- ITS FALSE NEIGHBOUR: 'it returns false'. Refute it at one input. -/
def roundWithinWrong : ChangeSpec := { name := "roundWithin", fn := fun _ => fun
  | [d1, d2, d3] => { results := [.lit (.bool false)], args := [d1, d2, d3] }
  | _ => none }
def RoundWithinWrongFalsely : Prop := roundWithinRow.holds Try.pinned (OpenSpec.ofChange roundWithinWrong)

/-- 'pennyfalllaw07.RoundDelay': WHATEVER THE INPUT: true; the input reads as it did. -/
def roundDelaySpec : ChangeSpec := { name := "roundDelay", fn := fun _ => fun
  | [d1, d2, d3] => { results := [.lit (.bool true)], args := [d1, d2, d3] }
  | _ => none }
def roundDelayRow : OpenClaim := { program := "ytaekjnjignlmoaa", sum := "22087ca182162b3b8420147865fb1c6e3d791b88eaca9e350e15de1fdf4d056e", func := "pennyfall/pennyfalllaw07.RoundDelay", spec := "roundDelay", unfollowed := true, recurses := true, plainKeys := false, apart := false }
def RoundDelaySaid : Prop := roundDelayRow.holds Try.pinned (OpenSpec.ofChange roundDelaySpec)

/-- ITS FALSE NEIGHBOUR: 'it returns false'. Refute it at one input. -/
def roundDelayWrong : ChangeSpec := { name := "roundDelay", fn := fun _ => fun
  | [d1, d2, d3] => { results := [.lit (.bool false)], args := [d1, d2, d3] }
  | _ => none }
def RoundDelayWrongFalsely : Prop := roundDelayRow.holds Try.pinned (OpenSpec.ofChange roundDelayWrong)

/-- 'pennyfalllaw07.RoundTurned': WHATEVER THE INPUT: true; the input reads as it did. -/
def roundTurnedSpec : ChangeSpec := { name := "roundTurned", fn := fun _ => fun
  | [d1, d2, d3] => { results := [.lit (.bool true)], args := [d1, d2, d3] }
  | _ => none }
def roundTurnedRow : OpenClaim := { program := "ytaekjnjignlmoaa", sum := "22087ca182162b3b8420147865fb1c6e3d791b88eaca9e350e15de1fdf4d056e", func := "pennyfall/pennyfalllaw07.RoundTurned", spec := "roundTurned", unfollowed := true, recurses := true, plainKeys := false, apart := false }
def RoundTurnedSaid : Prop := roundTurnedRow.holds Try.pinned (OpenSpec.ofChange roundTurnedSpec)

/-- ITS FALSE NEIGHBOUR: 'it returns false'. Refute it at one input. -/
def roundTurnedWrong : ChangeSpec := { name := "roundTurned", fn := fun _ => fun
  | [d1, d2, d3] => { results := [.lit (.bool false)], args := [d1, d2, d3] }
  | _ => none }
def RoundTurnedWrongFalsely : Prop := roundTurnedRow.holds Try.pinned (OpenSpec.ofChange roundTurnedWrong)

/-- 'pennyfalllaw07.RoundMore': WHATEVER THE INPUT: true; the input reads as it did. -/
def roundMoreSpec : ChangeSpec := { name := "roundMore", fn := fun _ => fun
  | [d1, d2, d3, d4, d5] => { results := [.lit (.bool true)], args := [d1, d2, d3, d4, d5] }
  | _ => none }
def roundMoreRow : OpenClaim := { program := "ytaekjnjignlmoaa", sum := "22087ca182162b3b8420147865fb1c6e3d791b88eaca9e350e15de1fdf4d056e", func := "pennyfall/pennyfalllaw07.RoundMore", spec := "roundMore", unfollowed := true, recurses := true, plainKeys := false, apart := false }
def RoundMoreSaid : Prop := roundMoreRow.holds Try.pinned (OpenSpec.ofChange roundMoreSpec)

/-- ITS FALSE NEIGHBOUR: 'it returns false'. Refute it at one input. -/
def roundMoreWrong : ChangeSpec := { name := "roundMore", fn := fun _ => fun
  | [d1, d2, d3, d4, d5] => { results := [.lit (.bool false)], args := [d1, d2, d3, d4, d5] }
  | _ => none }
def RoundMoreWrongFalsely : Prop := roundMoreRow.holds Try.pinned (OpenSpec.ofChange roundMoreWrong)

/-- 'pennyfalllaw07.RoundFree': WHATEVER THE INPUT: true; the input reads as it did. -/
def roundFreeSpec : ChangeSpec := { name := "roundFree", fn := fun _ => fun
  | [d] => { results := [.lit (.bool true)], args := [d] }
  | _ => none }
def roundFreeRow : OpenClaim := { program := "ytaekjnjignlmoaa", sum := "22087ca182162b3b8420147865fb1c6e3d791b88eaca9e350e15de1fdf4d056e", func := "pennyfall/pennyfalllaw07.RoundFree", spec := "roundFree", unfollowed := true, recurses := true, plainKeys := false, apart := false }
def RoundFreeSaid : Prop := roundFreeRow.holds Try.pinned (OpenSpec.ofChange roundFreeSpec)

/-- ITS FALSE NEIGHBOUR: 'it returns false'. Refute it at one input. -/
def roundFreeWrong : ChangeSpec := { name := "roundFree", fn := fun _ => fun
  | [d] => { results := [.lit (.bool false)], args := [d] }
  | _ => none }
def RoundFreeWrongFalsely : Prop := roundFreeRow.holds Try.pinned (OpenSpec.ofChange roundFreeWrong)

/-- 'pennyfalllaw07.RoundScaled': WHATEVER THE INPUT: true; the input reads as it did. -/
def roundScaledSpec : ChangeSpec := { name := "roundScaled", fn := fun _ => fun
  | [d1, d2, d3] => { results := [.lit (.bool true)], args := [d1, d2, d3] }
  | _ => none }
def roundScaledRow : OpenClaim := { program := "ytaekjnjignlmoaa", sum := "22087ca182162b3b8420147865fb1c6e3d791b88eaca9e350e15de1fdf4d056e", func := "pennyfall/pennyfalllaw07.RoundScaled", spec := "roundScaled", unfollowed := true, recurses := true, plainKeys := false, apart := false }
def RoundScaledSaid : Prop := roundScaledRow.holds Try.pinned (OpenSpec.ofChange roundScaledSpec)

/-- ITS FALSE NEIGHBOUR: 'it returns false'. Refute it at one input. -/
def roundScaledWrong : ChangeSpec := { name := "roundScaled", fn := fun _ => fun
  | [d1, d2, d3] => { results := [.lit (.bool false)], args := [d1, d2, d3] }
  | _ => none }
def RoundScaledWrongFalsely : Prop := roundScaledRow.holds Try.pinned (OpenSpec.ofChange roundScaledWrong)

/-- 'pennyfalllaw07.RoundKnown': WHATEVER THE INPUT: true; the input reads as it did. -/
def roundKnownSpec : ChangeSpec := { name := "roundKnown", fn := fun _ => fun
  | [] => { results := [.lit (.bool true)], args := [] }
  | _ => none }
def roundKnownRow : OpenClaim := { program := "ytaekjnjignlmoaa", sum := "22087ca182162b3b8420147865fb1c6e3d791b88eaca9e350e15de1fdf4d056e", func := "pennyfall/pennyfalllaw07.RoundKnown", spec := "roundKnown", unfollowed := true, recurses := true, plainKeys := false, apart := false }
def RoundKnownSaid : Prop := roundKnownRow.holds Try.pinned (OpenSpec.ofChange roundKnownSpec)

/-- ITS FALSE NEIGHBOUR: 'it returns false'. Refute it at one input. -/
def roundKnownWrong : ChangeSpec := { name := "roundKnown", fn := fun _ => fun
  | [] => { results := [.lit (.bool false)], args := [] }
  | _ => none }
def RoundKnownWrongFalsely : Prop := roundKnownRow.holds Try.pinned (OpenSpec.ofChange roundKnownWrong)

/- THE SECOND FORM. 'bulk': how many values and letters a reading holds, each counted each time it is reached (what is shared counts as often as it is met; a slice's spare places count too). A statement '..UptoSaid' is the law's where the arguments, and the package variables that the reading takes, are together of bulk at most 1048576: NARROWER than '..Said'. Prove '..Said' where nothing that the law and all that it calls make is longer than what came in: it says more and counts as full. Else prove '..UptoSaid'. A law counts once. -/
mutual
def uptoBulk {H : Type} : DataW H → Nat
  | .lit (.string bytes) => bytes.length + 1
  | .lit _ => 1
  | .nil => 1
  | .ptr d => uptoBulk d + 1
  | .slice elems spare => uptoBulkAll elems + uptoBulkAll spare + 1
  | .agg parts => uptoBulkAll parts + 1
  | .iface _ d => uptoBulk d + 1
  | .map entries => uptoBulkEntries entries + 1
  | .held _ => 1
def uptoBulkAll {H : Type} : List (DataW H) → Nat
  | [] => 0
  | d :: r => uptoBulk d + uptoBulkAll r
def uptoBulkEntries {H : Type} : List (Lit × DataW H) → Nat
  | [] => 0
  | x :: r => uptoBulkEntry x + uptoBulkEntries r
def uptoBulkEntry {H : Type} : Lit × DataW H → Nat
  | (.string bytes, d) => bytes.length + uptoBulk d + 1
  | (_, d) => uptoBulk d + 1
 end
def uptoSmall : (H : Type) → List (DataW H) → Bool := fun _ ds => decide (uptoBulkAll ds ≤ 1048576)
def OpenSpec.upto (s : _root_.Go.ChangeSpec) : _root_.Go.OpenSpec := { _root_.Go.OpenSpec.ofChange s with cond := some uptoSmall }

/-- 'pennyfalllaw07.RoundPiers', WHERE WHAT IT READS IS OF BULK AT MOST 1048576: true; the input reads as it did. -/
def roundPiersUptoRow : OpenClaim := { program := "ytaekjnjignlmoaa", sum := "22087ca182162b3b8420147865fb1c6e3d791b88eaca9e350e15de1fdf4d056e", func := "pennyfall/pennyfalllaw07.RoundPiers", spec := "roundPiers", unfollowed := true, recurses := true, plainKeys := false, apart := false, narrowed := true }
def RoundPiersUptoSaid : Prop := roundPiersUptoRow.holds Try.pinned (OpenSpec.upto roundPiersSpec)

/-- 'pennyfalllaw07.RoundLengths', WHERE WHAT IT READS IS OF BULK AT MOST 1048576: true; the input reads as it did. -/
def roundLengthsUptoRow : OpenClaim := { program := "ytaekjnjignlmoaa", sum := "22087ca182162b3b8420147865fb1c6e3d791b88eaca9e350e15de1fdf4d056e", func := "pennyfall/pennyfalllaw07.RoundLengths", spec := "roundLengths", unfollowed := true, recurses := true, plainKeys := false, apart := false, narrowed := true }
def RoundLengthsUptoSaid : Prop := roundLengthsUptoRow.holds Try.pinned (OpenSpec.upto roundLengthsSpec)

/-- 'pennyfalllaw07.RoundTimes', WHERE WHAT IT READS IS OF BULK AT MOST 1048576: true; the input reads as it did. -/
def roundTimesUptoRow : OpenClaim := { program := "ytaekjnjignlmoaa", sum := "22087ca182162b3b8420147865fb1c6e3d791b88eaca9e350e15de1fdf4d056e", func := "pennyfall/pennyfalllaw07.RoundTimes", spec := "roundTimes", unfollowed := true, recurses := true, plainKeys := false, apart := false, narrowed := true }
def RoundTimesUptoSaid : Prop := roundTimesUptoRow.holds Try.pinned (OpenSpec.upto roundTimesSpec)

/-- 'pennyfalllaw07.RoundBounds', WHERE WHAT IT READS IS OF BULK AT MOST 1048576: true; the input reads as it did. -/
def roundBoundsUptoRow : OpenClaim := { program := "ytaekjnjignlmoaa", sum := "22087ca182162b3b8420147865fb1c6e3d791b88eaca9e350e15de1fdf4d056e", func := "pennyfall/pennyfalllaw07.RoundBounds", spec := "roundBounds", unfollowed := true, recurses := true, plainKeys := false, apart := false, narrowed := true }
def RoundBoundsUptoSaid : Prop := roundBoundsUptoRow.holds Try.pinned (OpenSpec.upto roundBoundsSpec)

/-- 'pennyfalllaw07.RoundClashes', WHERE WHAT IT READS IS OF BULK AT MOST 1048576: true; the input reads as it did. -/
def roundClashesUptoRow : OpenClaim := { program := "ytaekjnjignlmoaa", sum := "22087ca182162b3b8420147865fb1c6e3d791b88eaca9e350e15de1fdf4d056e", func := "pennyfall/pennyfalllaw07.RoundClashes", spec := "roundClashes", unfollowed := true, recurses := true, plainKeys := false, apart := false, narrowed := true }
def RoundClashesUptoSaid : Prop := roundClashesUptoRow.holds Try.pinned (OpenSpec.upto roundClashesSpec)

/-- 'pennyfalllaw07.RoundProved', WHERE WHAT IT READS IS OF BULK AT MOST 1048576: true; the input reads as it did. -/
def roundProvedUptoRow : OpenClaim := { program := "ytaekjnjignlmoaa", sum := "22087ca182162b3b8420147865fb1c6e3d791b88eaca9e350e15de1fdf4d056e", func := "pennyfall/pennyfalllaw07.RoundProved", spec := "roundProved", unfollowed := true, recurses := true, plainKeys := false, apart := false, narrowed := true }
def RoundProvedUptoSaid : Prop := roundProvedUptoRow.holds Try.pinned (OpenSpec.upto roundProvedSpec)

/-- 'pennyfalllaw07.RoundEither', WHERE WHAT IT READS IS OF BULK AT MOST 1048576: true; the input reads as it did. -/
def roundEitherUptoRow : OpenClaim := { program := "ytaekjnjignlmoaa", sum := "22087ca182162b3b8420147865fb1c6e3d791b88eaca9e350e15de1fdf4d056e", func := "pennyfall/pennyfalllaw07.RoundEither", spec := "roundEither", unfollowed := true, recurses := true, plainKeys := false, apart := false, narrowed := true }
def RoundEitherUptoSaid : Prop := roundEitherUptoRow.holds Try.pinned (OpenSpec.upto roundEitherSpec)

/-- 'pennyfalllaw07.RoundWithin', WHERE WHAT IT READS IS OF BULK AT MOST 1048576: true; the input reads as it did. -/
def roundWithinUptoRow : OpenClaim := { program := "ytaekjnjignlmoaa", sum := "22087ca182162b3b8420147865fb1c6e3d791b88eaca9e350e15de1fdf4d056e", func := "pennyfall/pennyfalllaw07.RoundWithin", spec := "roundWithin", unfollowed := true, recurses := true, plainKeys := false, apart := false, narrowed := true }
def RoundWithinUptoSaid : Prop := roundWithinUptoRow.holds Try.pinned (OpenSpec.upto roundWithinSpec)

/-- 'pennyfalllaw07.RoundDelay', WHERE WHAT IT READS IS OF BULK AT MOST 1048576: true; the input reads as it did. -/
def roundDelayUptoRow : OpenClaim := { program := "ytaekjnjignlmoaa", sum := "22087ca182162b3b8420147865fb1c6e3d791b88eaca9e350e15de1fdf4d056e", func := "pennyfall/pennyfalllaw07.RoundDelay", spec := "roundDelay", unfollowed := true, recurses := true, plainKeys := false, apart := false, narrowed := true }
def RoundDelayUptoSaid : Prop := roundDelayUptoRow.holds Try.pinned (OpenSpec.upto roundDelaySpec)

/-- 'pennyfalllaw07.RoundTurned', WHERE WHAT IT READS IS OF BULK AT MOST 1048576: true; the input reads as it did. -/
def roundTurnedUptoRow : OpenClaim := { program := "ytaekjnjignlmoaa", sum := "22087ca182162b3b8420147865fb1c6e3d791b88eaca9e350e15de1fdf4d056e", func := "pennyfall/pennyfalllaw07.RoundTurned", spec := "roundTurned", unfollowed := true, recurses := true, plainKeys := false, apart := false, narrowed := true }
def RoundTurnedUptoSaid : Prop := roundTurnedUptoRow.holds Try.pinned (OpenSpec.upto roundTurnedSpec)

/-- 'pennyfalllaw07.RoundMore', WHERE WHAT IT READS IS OF BULK AT MOST 1048576: true; the input reads as it did. -/
def roundMoreUptoRow : OpenClaim := { program := "ytaekjnjignlmoaa", sum := "22087ca182162b3b8420147865fb1c6e3d791b88eaca9e350e15de1fdf4d056e", func := "pennyfall/pennyfalllaw07.RoundMore", spec := "roundMore", unfollowed := true, recurses := true, plainKeys := false, apart := false, narrowed := true }
def RoundMoreUptoSaid : Prop := roundMoreUptoRow.holds Try.pinned (OpenSpec.upto roundMoreSpec)

/-- 'pennyfalllaw07.RoundFree', WHERE WHAT IT READS IS OF BULK AT MOST 1048576: true; the input reads as it did. -/
def roundFreeUptoRow : OpenClaim := { program := "ytaekjnjignlmoaa", sum := "22087ca182162b3b8420147865fb1c6e3d791b88eaca9e350e15de1fdf4d056e", func := "pennyfall/pennyfalllaw07.RoundFree", spec := "roundFree", unfollowed := true, recurses := true, plainKeys := false, apart := false, narrowed := true }
def RoundFreeUptoSaid : Prop := roundFreeUptoRow.holds Try.pinned (OpenSpec.upto roundFreeSpec)

/-- 'pennyfalllaw07.RoundScaled', WHERE WHAT IT READS IS OF BULK AT MOST 1048576: true; the input reads as it did. -/
def roundScaledUptoRow : OpenClaim := { program := "ytaekjnjignlmoaa", sum := "22087ca182162b3b8420147865fb1c6e3d791b88eaca9e350e15de1fdf4d056e", func := "pennyfall/pennyfalllaw07.RoundScaled", spec := "roundScaled", unfollowed := true, recurses := true, plainKeys := false, apart := false, narrowed := true }
def RoundScaledUptoSaid : Prop := roundScaledUptoRow.holds Try.pinned (OpenSpec.upto roundScaledSpec)

/-- 'pennyfalllaw07.RoundKnown', WHERE WHAT IT READS IS OF BULK AT MOST 1048576: true; the input reads as it did. -/
def roundKnownUptoRow : OpenClaim := { program := "ytaekjnjignlmoaa", sum := "22087ca182162b3b8420147865fb1c6e3d791b88eaca9e350e15de1fdf4d056e", func := "pennyfall/pennyfalllaw07.RoundKnown", spec := "roundKnown", unfollowed := true, recurses := true, plainKeys := false, apart := false, narrowed := true }
def RoundKnownUptoSaid : Prop := roundKnownUptoRow.holds Try.pinned (OpenSpec.upto roundKnownSpec)

end Rows
end Go.Proofs.Ytaekjnjignlmoaa
