/-
  The closed facts of the row of TopLandedSkill, one by one. Printed by gen_facts.py.
-/
import Derived.Test.YtibmpjhffeinoaaGreatTRow
import Derived.JoinedOf
namespace Go.Proofs.YtibmpjhffeinoaaGreat
open Go.RowKit

set_option maxRecDepth 100000
theorem j3_n : Tryz.pinned.checked.prog.funcNamed Rows.topLandedSkillRow.func = some 3 := by kernel_rfl
theorem j3_0 : (Rows.topLandedSkillRow.wf (OpenSpec.ofChange Rows.topLandedSkillSpec)) = true := by kernel_rfl
theorem j3_1 : (laidOutB Tryz.pinned.checked.prog) = true := by kernel_rfl
theorem j3_2 : (mapsRowed Tryz.pinned.checked.prog) = true := by kernel_rfl
theorem j3_3 : (Tryz.f3.params.all (Tryz.pinned.checked.prog.readableRec ·)) = true := by kernel_rfl
theorem j3_4 : (namedTie Tryz.pinned.checked.prog Rows.topLandedSkillRow.named Rows.topLandedSkillSpec.vars) = true := by kernel_rfl
theorem j3_5 : ((Rows.topLandedSkillRow.stops == [])) = true := by kernel_rfl
theorem j3_6 : ((Tryz.pinned.checked.prog.stops == [])) = true := by kernel_rfl
theorem j3_7 : ((Rows.topLandedSkillRow.knobs == [])) = true := by kernel_rfl
theorem j3_8 : ((Tryz.pinned.checked.prog.stopKnobs == [])) = true := by kernel_rfl
theorem j3_9 : ((Rows.topLandedSkillRow.inPlace == Tryz.pinned.checked.prog.inPlace 3)) = true := by kernel_rfl
theorem j3_10 : ((Rows.topLandedSkillRow.unfollowed == Tryz.pinned.checked.prog.unfollowed 3)) = true := by kernel_rfl
theorem j3_11 : ((Rows.topLandedSkillRow.recurses == Tryz.pinned.checked.prog.recurses 3)) = true := by kernel_rfl
theorem j3_12 : ((Rows.topLandedSkillRow.named == Tryz.pinned.checked.prog.varsNamed 3)) = true := by kernel_rfl
theorem j3_13 : ((Rows.topLandedSkillRow.maps == (Tryz.f3.params.toList ++ Rows.topLandedSkillSpec.plain.varTypes Tryz.pinned.checked.prog).any (Tryz.pinned.checked.prog.mapsRec ·))) = true := by kernel_rfl
theorem j3_14 : ((Rows.topLandedSkillRow.ifaces == (Tryz.f3.params.toList ++ Rows.topLandedSkillSpec.plain.varTypes Tryz.pinned.checked.prog).any (Tryz.pinned.checked.prog.ifacesRec ·))) = true := by kernel_rfl
theorem j3_15 : ((Rows.topLandedSkillRow.mapsOut == Tryz.pinned.checked.prog.mapsAmong Tryz.f3.resultTypes.toList)) = true := by kernel_rfl
theorem j3_16 : ((Rows.topLandedSkillRow.loops == (Tryz.f3.params.toList ++ Rows.topLandedSkillSpec.plain.varTypes Tryz.pinned.checked.prog).any (Tryz.pinned.checked.prog.loopsFrom ·))) = true := by kernel_rfl
theorem j3_17 : ((Rows.topLandedSkillRow.wideKeys == (Tryz.f3.params.toList ++ Rows.topLandedSkillSpec.plain.varTypes Tryz.pinned.checked.prog ++ Tryz.f3.resultTypes.toList).any (Tryz.pinned.checked.prog.wideKeysFrom ·))) = true := by kernel_rfl
theorem j3_18 : (Rows.topLandedSkillSpec.vars.all (Tryz.pinned.checked.prog.varReadable ·)) = true := by kernel_rfl
theorem j3_19 : (Tryz.f3.resultTypes.all (fun t => Tryz.pinned.checked.prog.readableRec t && decide (t < Tryz.pinned.checked.prog.types.size))) = true := by kernel_rfl
theorem j3_20 : ((Rows.topLandedSkillRow.ifacesOut == Tryz.f3.resultTypes.toList.any (Tryz.pinned.checked.prog.ifacesRec ·))) = true := by kernel_rfl
theorem j3_21 : ((Rows.topLandedSkillRow.loopsOut == Tryz.f3.resultTypes.toList.any (Tryz.pinned.checked.prog.loopsFrom ·))) = true := by kernel_rfl
theorem j3_22 : ((Rows.topLandedSkillRow.plainKeys == Tryz.pinned.checked.prog.plainKeys)) = true := by kernel_rfl
theorem j3_23 : (Rows.topLandedSkillRow.shortTexts.isNone) = true := by kernel_rfl
theorem j3_24 : (Tryz.pinned.checked.prog.stopsHeard) = true := by kernel_rfl
theorem j3_25 : (Tryz.pinned.checked.prog.mayEnter) = true := by kernel_rfl
theorem j3_26 : ((Rows.topLandedSkillRow.lifted == Tryz.pinned.checked.prog.liftsFinal)) = true := by kernel_rfl
theorem j3_27 : ((Tryz.pinned.checked.prog.make == some Rows.topLandedSkillRow.make)) = true := by kernel_rfl
theorem j3_28 : ((Rows.topLandedSkillRow.kinds == (if Rows.topLandedSkillRow.domain.isEmpty then [] else Tryz.f3.params.toList.map fun t => match Tryz.pinned.checked.prog.underlying t with | some (.int k) => some k | _ => none))) = true := by kernel_rfl
theorem j3_29 : ((Rows.topLandedSkillRow.pinned == Rows.topLandedSkillRow.pinnedBy)) = true := by kernel_rfl
theorem j3_30 : ((Rows.topLandedSkillRow.veiled == (Tryz.f3.params.toList ++ Rows.topLandedSkillSpec.plain.varTypes Tryz.pinned.checked.prog ++ Tryz.f3.resultTypes.toList).any (Tryz.pinned.checked.prog.veiledRec ·))) = true := by kernel_rfl
theorem j3_31 : (Rows.topLandedSkillRow.veiledFits Tryz.pinned.checked.prog Tryz.f3.params.toList (Tryz.f3.params.toList ++ Rows.topLandedSkillSpec.plain.varTypes Tryz.pinned.checked.prog ++ Tryz.f3.resultTypes.toList)) = true := by kernel_rfl
theorem j3_and {a b : Bool} (h1 : a = true) (h2 : b = true) : (a && b) = true := by rw [h1, h2]; rfl
theorem j3_all : joinedFacts Tryz.pinned.checked.prog 3 Tryz.f3 Rows.topLandedSkillSpec Rows.topLandedSkillRow = true := by
  unfold joinedFacts
  exact j3_and (j3_and (j3_and (j3_and (j3_and (j3_and (j3_and (j3_and (j3_and (j3_and (j3_and (j3_and (j3_and (j3_and (j3_and (j3_and (j3_and (j3_and (j3_and (j3_and (j3_and (j3_and (j3_and (j3_and (j3_and (j3_and (j3_and (j3_and (j3_and (j3_and (j3_and (j3_0) j3_1) j3_2) j3_3) j3_4) j3_5) j3_6) j3_7) j3_8) j3_9) j3_10) j3_11) j3_12) j3_13) j3_14) j3_15) j3_16) j3_17) j3_18) j3_19) j3_20) j3_21) j3_22) j3_23) j3_24) j3_25) j3_26) j3_27) j3_28) j3_29) j3_30) j3_31
end Go.Proofs.YtibmpjhffeinoaaGreat
