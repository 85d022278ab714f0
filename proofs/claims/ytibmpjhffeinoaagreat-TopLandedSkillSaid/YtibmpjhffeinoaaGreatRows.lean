/-
  No cell of these rows narrows 'for every input' (looked for: loops, veiled, ifaces, maps, wideKeys, modest, calm, conditions, laid).
  DERIVED. THE GIVEN ROWS OF THIS SEAT. 7 by the template 'for every input the law returns true; each argument reads behind the call as it read before'; 0 by the template 'total and deterministic' (their statements: YtibmpjhffeinoaaGreatTotals.lean).
  GIVEN WITH THE SEED: the statements are not yours to turn. If you find one false, say at which input.
  Laid BY PROGRAM, IN A SANDBOX (cutbox-rows.mjs): the forced cells as the released guide's own fill.sh prints them over the translation 212f6ae92e63ed8b… (all of the seat's roots in one cut). By AI agents, Wed Nov 11 2026. No macro, syntax, notation, axiom, sorry.
-/
import Derived.Test.YtibmpjhffeinoaaGreatChecked
import GoSem.Claim
import GoSem.ClaimJoined
import GoSem.ClaimMapViews
import Derived.JoinedTies
import Derived.KernelRfl
namespace Go.Proofs.YtibmpjhffeinoaaGreat
/- THE CELL 'sum', in the pinned program and in every row, IS THE sha256 OF THE DUMP (.gsa) THAT YtibmpjhffeinoaaGreatProg.lean LOADS. Nothing in Lean hashes anything: it is a label: what it is worth is what the hold of that sum in a sandbox is worth. -/
noncomputable def Tryz.pinned : Pinned := { name := "ytibmpjhffeinoaagreat", sum := "212f6ae92e63ed8bed845ace1267f218f5e3eecd738e4661ea88b1d1e51e7faf", checked := Tryz.checked }
namespace Rows
def none {H : Type} : Left H := { results := [], args := [] }

/-- 'pennyfalltop.TopLandedSkill': WHATEVER THE INPUT: true; the input reads as it did. -/
def topLandedSkillSpec : ChangeSpec := { name := "topLandedSkill", fn := fun _ => fun
  | [d1, d2] => { results := [.lit (.bool true)], args := [d1, d2] }
  | _ => none }
def topLandedSkillRow : OpenClaim := { program := "ytibmpjhffeinoaagreat", sum := "212f6ae92e63ed8bed845ace1267f218f5e3eecd738e4661ea88b1d1e51e7faf", func := "pennyfall/pennyfalltop.TopLandedSkill", spec := "topLandedSkill", unfollowed := true, recurses := true, plainKeys := false, apart := false }
def TopLandedSkillSaid : Prop := topLandedSkillRow.holds Tryz.pinned (OpenSpec.ofChange topLandedSkillSpec)

/-- ITS FALSE NEIGHBOUR: 'it returns false'. Refute it at one input. -/
def topLandedSkillWrong : ChangeSpec := { name := "topLandedSkill", fn := fun _ => fun
  | [d1, d2] => { results := [.lit (.bool false)], args := [d1, d2] }
  | _ => none }
def TopLandedSkillWrongFalsely : Prop := topLandedSkillRow.holds Tryz.pinned (OpenSpec.ofChange topLandedSkillWrong)

/-- 'pennyfalltop.TopPinnedSkill': WHATEVER THE INPUT: true; the input reads as it did. -/
def topPinnedSkillSpec : ChangeSpec := { name := "topPinnedSkill", fn := fun _ => fun
  | [d1, d2, d3] => { results := [.lit (.bool true)], args := [d1, d2, d3] }
  | _ => none }
def topPinnedSkillRow : OpenClaim := { program := "ytibmpjhffeinoaagreat", sum := "212f6ae92e63ed8bed845ace1267f218f5e3eecd738e4661ea88b1d1e51e7faf", func := "pennyfall/pennyfalltop.TopPinnedSkill", spec := "topPinnedSkill", unfollowed := true, recurses := true, plainKeys := false, apart := false }
def TopPinnedSkillSaid : Prop := topPinnedSkillRow.holds Tryz.pinned (OpenSpec.ofChange topPinnedSkillSpec)

/-- ITS FALSE NEIGHBOUR: 'it returns false'. Refute it at one input. -/
def topPinnedSkillWrong : ChangeSpec := { name := "topPinnedSkill", fn := fun _ => fun
  | [d1, d2, d3] => { results := [.lit (.bool false)], args := [d1, d2, d3] }
  | _ => none }
def TopPinnedSkillWrongFalsely : Prop := topPinnedSkillRow.holds Tryz.pinned (OpenSpec.ofChange topPinnedSkillWrong)

/-- 'pennyfalltop.TopPairedLedge': WHATEVER THE INPUT: true; the input reads as it did. -/
def topPairedLedgeSpec : ChangeSpec := { name := "topPairedLedge", fn := fun _ => fun
  | [d1, d2, d3] => { results := [.lit (.bool true)], args := [d1, d2, d3] }
  | _ => none }
def topPairedLedgeRow : OpenClaim := { program := "ytibmpjhffeinoaagreat", sum := "212f6ae92e63ed8bed845ace1267f218f5e3eecd738e4661ea88b1d1e51e7faf", func := "pennyfall/pennyfalltop.TopPairedLedge", spec := "topPairedLedge", unfollowed := true, recurses := true, plainKeys := false, apart := false }
def TopPairedLedgeSaid : Prop := topPairedLedgeRow.holds Tryz.pinned (OpenSpec.ofChange topPairedLedgeSpec)

/-- ITS FALSE NEIGHBOUR: 'it returns false'. Refute it at one input. -/
def topPairedLedgeWrong : ChangeSpec := { name := "topPairedLedge", fn := fun _ => fun
  | [d1, d2, d3] => { results := [.lit (.bool false)], args := [d1, d2, d3] }
  | _ => none }
def TopPairedLedgeWrongFalsely : Prop := topPairedLedgeRow.holds Tryz.pinned (OpenSpec.ofChange topPairedLedgeWrong)

/-- 'pennyfalltop.TopDroppedSkill': WHATEVER THE INPUT: true; the input reads as it did. -/
def topDroppedSkillSpec : ChangeSpec := { name := "topDroppedSkill", fn := fun _ => fun
  | [d1, d2] => { results := [.lit (.bool true)], args := [d1, d2] }
  | _ => none }
def topDroppedSkillRow : OpenClaim := { program := "ytibmpjhffeinoaagreat", sum := "212f6ae92e63ed8bed845ace1267f218f5e3eecd738e4661ea88b1d1e51e7faf", func := "pennyfall/pennyfalltop.TopDroppedSkill", spec := "topDroppedSkill", unfollowed := true, recurses := true, plainKeys := false, apart := false }
def TopDroppedSkillSaid : Prop := topDroppedSkillRow.holds Tryz.pinned (OpenSpec.ofChange topDroppedSkillSpec)

/-- ITS FALSE NEIGHBOUR: 'it returns false'. Refute it at one input. -/
def topDroppedSkillWrong : ChangeSpec := { name := "topDroppedSkill", fn := fun _ => fun
  | [d1, d2] => { results := [.lit (.bool false)], args := [d1, d2] }
  | _ => none }
def TopDroppedSkillWrongFalsely : Prop := topDroppedSkillRow.holds Tryz.pinned (OpenSpec.ofChange topDroppedSkillWrong)

/-- 'pennyfalltop.TopWeighedSlug': WHATEVER THE INPUT: true; the input reads as it did. -/
def topWeighedSlugSpec : ChangeSpec := { name := "topWeighedSlug", fn := fun _ => fun
  | [d1, d2] => { results := [.lit (.bool true)], args := [d1, d2] }
  | _ => none }
def topWeighedSlugRow : OpenClaim := { program := "ytibmpjhffeinoaagreat", sum := "212f6ae92e63ed8bed845ace1267f218f5e3eecd738e4661ea88b1d1e51e7faf", func := "pennyfall/pennyfalltop.TopWeighedSlug", spec := "topWeighedSlug", unfollowed := true, recurses := true, plainKeys := false, apart := false }
def TopWeighedSlugSaid : Prop := topWeighedSlugRow.holds Tryz.pinned (OpenSpec.ofChange topWeighedSlugSpec)

/-- ITS FALSE NEIGHBOUR: 'it returns false'. Refute it at one input. -/
def topWeighedSlugWrong : ChangeSpec := { name := "topWeighedSlug", fn := fun _ => fun
  | [d1, d2] => { results := [.lit (.bool false)], args := [d1, d2] }
  | _ => none }
def TopWeighedSlugWrongFalsely : Prop := topWeighedSlugRow.holds Tryz.pinned (OpenSpec.ofChange topWeighedSlugWrong)

/-- 'pennyfalltop.TopCountedLedge': WHATEVER THE INPUT: true; the input reads as it did. -/
def topCountedLedgeSpec : ChangeSpec := { name := "topCountedLedge", fn := fun _ => fun
  | [d1, d2, d3] => { results := [.lit (.bool true)], args := [d1, d2, d3] }
  | _ => none }
def topCountedLedgeRow : OpenClaim := { program := "ytibmpjhffeinoaagreat", sum := "212f6ae92e63ed8bed845ace1267f218f5e3eecd738e4661ea88b1d1e51e7faf", func := "pennyfall/pennyfalltop.TopCountedLedge", spec := "topCountedLedge", unfollowed := true, recurses := true, plainKeys := false, apart := false }
def TopCountedLedgeSaid : Prop := topCountedLedgeRow.holds Tryz.pinned (OpenSpec.ofChange topCountedLedgeSpec)

/-- ITS FALSE NEIGHBOUR: 'it returns false'. Refute it at one input. -/
def topCountedLedgeWrong : ChangeSpec := { name := "topCountedLedge", fn := fun _ => fun
  | [d1, d2, d3] => { results := [.lit (.bool false)], args := [d1, d2, d3] }
  | _ => none }
def TopCountedLedgeWrongFalsely : Prop := topCountedLedgeRow.holds Tryz.pinned (OpenSpec.ofChange topCountedLedgeWrong)

/-- 'pennyfalltop.TopFallenBox': WHATEVER THE INPUT: true; the input reads as it did. -/
def topFallenBoxSpec : ChangeSpec := { name := "topFallenBox", fn := fun _ => fun
  | [d1, d2, d3] => { results := [.lit (.bool true)], args := [d1, d2, d3] }
  | _ => none }
def topFallenBoxRow : OpenClaim := { program := "ytibmpjhffeinoaagreat", sum := "212f6ae92e63ed8bed845ace1267f218f5e3eecd738e4661ea88b1d1e51e7faf", func := "pennyfall/pennyfalltop.TopFallenBox", spec := "topFallenBox", unfollowed := true, recurses := true, plainKeys := false, apart := false }
def TopFallenBoxSaid : Prop := topFallenBoxRow.holds Tryz.pinned (OpenSpec.ofChange topFallenBoxSpec)

/-- ITS FALSE NEIGHBOUR: 'it returns false'. Refute it at one input. -/
def topFallenBoxWrong : ChangeSpec := { name := "topFallenBox", fn := fun _ => fun
  | [d1, d2, d3] => { results := [.lit (.bool false)], args := [d1, d2, d3] }
  | _ => none }
def TopFallenBoxWrongFalsely : Prop := topFallenBoxRow.holds Tryz.pinned (OpenSpec.ofChange topFallenBoxWrong)

/- THE SECOND FORM. 'bulk': how many values and letters a reading holds, each counted each time it is reached (what is shared counts as often as it is met; a slice's spare places count too). A statement '..UptoSaid' is the law's where the arguments, and the package variables that the reading takes, are together of bulk at most 1048576: NARROWER than '..Said'. Prove '..Said' where nothing that the law and all that it calls make is longer than what came in: it says more and counts as full. Else prove '..UptoSaid'. A law counts once. -/
mutual
def uptoBulk {H : Type} : DataW H → Nat
  | .lit (.string bytes) => bytes.length + 1
  | .lit _ => 1
  | .nil => 1
  | .ptr d => uptoBulk d + 1
  | .slice elems spare => uptoBulkAll elems + uptoBulkAll spare + 1
  | .agg parts => uptoBulkAll parts + 1
  | .iface _ d => uptoBulk d + 1
  | .map entries => uptoBulkEntries entries + 1
  | .held _ => 1
def uptoBulkAll {H : Type} : List (DataW H) → Nat
  | [] => 0
  | d :: r => uptoBulk d + uptoBulkAll r
def uptoBulkEntries {H : Type} : List (Lit × DataW H) → Nat
  | [] => 0
  | x :: r => uptoBulkEntry x + uptoBulkEntries r
def uptoBulkEntry {H : Type} : Lit × DataW H → Nat
  | (.string bytes, d) => bytes.length + uptoBulk d + 1
  | (_, d) => uptoBulk d + 1
 end
def uptoSmall : (H : Type) → List (DataW H) → Bool := fun _ ds => decide (uptoBulkAll ds ≤ 1048576)
def OpenSpec.upto (s : _root_.Go.ChangeSpec) : _root_.Go.OpenSpec := { _root_.Go.OpenSpec.ofChange s with cond := some uptoSmall }

/-- 'pennyfalltop.TopLandedSkill', WHERE WHAT IT READS IS OF BULK AT MOST 1048576: true; the input reads as it did. -/
def topLandedSkillUptoRow : OpenClaim := { program := "ytibmpjhffeinoaagreat", sum := "212f6ae92e63ed8bed845ace1267f218f5e3eecd738e4661ea88b1d1e51e7faf", func := "pennyfall/pennyfalltop.TopLandedSkill", spec := "topLandedSkill", unfollowed := true, recurses := true, plainKeys := false, apart := false, narrowed := true }
def TopLandedSkillUptoSaid : Prop := topLandedSkillUptoRow.holds Tryz.pinned (OpenSpec.upto topLandedSkillSpec)

/-- 'pennyfalltop.TopPinnedSkill', WHERE WHAT IT READS IS OF BULK AT MOST 1048576: true; the input reads as it did. -/
def topPinnedSkillUptoRow : OpenClaim := { program := "ytibmpjhffeinoaagreat", sum := "212f6ae92e63ed8bed845ace1267f218f5e3eecd738e4661ea88b1d1e51e7faf", func := "pennyfall/pennyfalltop.TopPinnedSkill", spec := "topPinnedSkill", unfollowed := true, recurses := true, plainKeys := false, apart := false, narrowed := true }
def TopPinnedSkillUptoSaid : Prop := topPinnedSkillUptoRow.holds Tryz.pinned (OpenSpec.upto topPinnedSkillSpec)

/-- 'pennyfalltop.TopPairedLedge', WHERE WHAT IT READS IS OF BULK AT MOST 1048576: true; the input reads as it did. -/
def topPairedLedgeUptoRow : OpenClaim := { program := "ytibmpjhffeinoaagreat", sum := "212f6ae92e63ed8bed845ace1267f218f5e3eecd738e4661ea88b1d1e51e7faf", func := "pennyfall/pennyfalltop.TopPairedLedge", spec := "topPairedLedge", unfollowed := true, recurses := true, plainKeys := false, apart := false, narrowed := true }
def TopPairedLedgeUptoSaid : Prop := topPairedLedgeUptoRow.holds Tryz.pinned (OpenSpec.upto topPairedLedgeSpec)

/-- 'pennyfalltop.TopDroppedSkill', WHERE WHAT IT READS IS OF BULK AT MOST 1048576: true; the input reads as it did. -/
def topDroppedSkillUptoRow : OpenClaim := { program := "ytibmpjhffeinoaagreat", sum := "212f6ae92e63ed8bed845ace1267f218f5e3eecd738e4661ea88b1d1e51e7faf", func := "pennyfall/pennyfalltop.TopDroppedSkill", spec := "topDroppedSkill", unfollowed := true, recurses := true, plainKeys := false, apart := false, narrowed := true }
def TopDroppedSkillUptoSaid : Prop := topDroppedSkillUptoRow.holds Tryz.pinned (OpenSpec.upto topDroppedSkillSpec)

/-- 'pennyfalltop.TopWeighedSlug', WHERE WHAT IT READS IS OF BULK AT MOST 1048576: true; the input reads as it did. -/
def topWeighedSlugUptoRow : OpenClaim := { program := "ytibmpjhffeinoaagreat", sum := "212f6ae92e63ed8bed845ace1267f218f5e3eecd738e4661ea88b1d1e51e7faf", func := "pennyfall/pennyfalltop.TopWeighedSlug", spec := "topWeighedSlug", unfollowed := true, recurses := true, plainKeys := false, apart := false, narrowed := true }
def TopWeighedSlugUptoSaid : Prop := topWeighedSlugUptoRow.holds Tryz.pinned (OpenSpec.upto topWeighedSlugSpec)

/-- 'pennyfalltop.TopCountedLedge', WHERE WHAT IT READS IS OF BULK AT MOST 1048576: true; the input reads as it did. -/
def topCountedLedgeUptoRow : OpenClaim := { program := "ytibmpjhffeinoaagreat", sum := "212f6ae92e63ed8bed845ace1267f218f5e3eecd738e4661ea88b1d1e51e7faf", func := "pennyfall/pennyfalltop.TopCountedLedge", spec := "topCountedLedge", unfollowed := true, recurses := true, plainKeys := false, apart := false, narrowed := true }
def TopCountedLedgeUptoSaid : Prop := topCountedLedgeUptoRow.holds Tryz.pinned (OpenSpec.upto topCountedLedgeSpec)

/-- 'pennyfalltop.TopFallenBox', WHERE WHAT IT READS IS OF BULK AT MOST 1048576: true; the input reads as it did. -/
def topFallenBoxUptoRow : OpenClaim := { program := "ytibmpjhffeinoaagreat", sum := "212f6ae92e63ed8bed845ace1267f218f5e3eecd738e4661ea88b1d1e51e7faf", func := "pennyfall/pennyfalltop.TopFallenBox", spec := "topFallenBox", unfollowed := true, recurses := true, plainKeys := false, apart := false, narrowed := true }
def TopFallenBoxUptoSaid : Prop := topFallenBoxUptoRow.holds Tryz.pinned (OpenSpec.upto topFallenBoxSpec)

end Rows
end Go.Proofs.YtibmpjhffeinoaaGreat
