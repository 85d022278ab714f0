/-
  The closed facts of the row of TopDroppedSkill, one by one. Printed by gen_facts.py.
-/
import Derived.Test.YtibmpjhffeinoaaGreatTRow
import Derived.JoinedOf
namespace Go.Proofs.YtibmpjhffeinoaaGreat
open Go.RowKit

set_option maxRecDepth 100000
theorem j6_n : Tryz.pinned.checked.prog.funcNamed Rows.topDroppedSkillRow.func = some 6 := by kernel_rfl
theorem j6_0 : (Rows.topDroppedSkillRow.wf (OpenSpec.ofChange Rows.topDroppedSkillSpec)) = true := by kernel_rfl
theorem j6_1 : (laidOutB Tryz.pinned.checked.prog) = true := by kernel_rfl
theorem j6_2 : (mapsRowed Tryz.pinned.checked.prog) = true := by kernel_rfl
theorem j6_3 : (Tryz.f6.params.all (Tryz.pinned.checked.prog.readableRec ·)) = true := by kernel_rfl
theorem j6_4 : (namedTie Tryz.pinned.checked.prog Rows.topDroppedSkillRow.named Rows.topDroppedSkillSpec.vars) = true := by kernel_rfl
theorem j6_5 : ((Rows.topDroppedSkillRow.stops == [])) = true := by kernel_rfl
theorem j6_6 : ((Tryz.pinned.checked.prog.stops == [])) = true := by kernel_rfl
theorem j6_7 : ((Rows.topDroppedSkillRow.knobs == [])) = true := by kernel_rfl
theorem j6_8 : ((Tryz.pinned.checked.prog.stopKnobs == [])) = true := by kernel_rfl
theorem j6_9 : ((Rows.topDroppedSkillRow.inPlace == Tryz.pinned.checked.prog.inPlace 6)) = true := by kernel_rfl
theorem j6_10 : ((Rows.topDroppedSkillRow.unfollowed == Tryz.pinned.checked.prog.unfollowed 6)) = true := by kernel_rfl
theorem j6_11 : ((Rows.topDroppedSkillRow.recurses == Tryz.pinned.checked.prog.recurses 6)) = true := by kernel_rfl
theorem j6_12 : ((Rows.topDroppedSkillRow.named == Tryz.pinned.checked.prog.varsNamed 6)) = true := by kernel_rfl
theorem j6_13 : ((Rows.topDroppedSkillRow.maps == (Tryz.f6.params.toList ++ Rows.topDroppedSkillSpec.plain.varTypes Tryz.pinned.checked.prog).any (Tryz.pinned.checked.prog.mapsRec ·))) = true := by kernel_rfl
theorem j6_14 : ((Rows.topDroppedSkillRow.ifaces == (Tryz.f6.params.toList ++ Rows.topDroppedSkillSpec.plain.varTypes Tryz.pinned.checked.prog).any (Tryz.pinned.checked.prog.ifacesRec ·))) = true := by kernel_rfl
theorem j6_15 : ((Rows.topDroppedSkillRow.mapsOut == Tryz.pinned.checked.prog.mapsAmong Tryz.f6.resultTypes.toList)) = true := by kernel_rfl
theorem j6_16 : ((Rows.topDroppedSkillRow.loops == (Tryz.f6.params.toList ++ Rows.topDroppedSkillSpec.plain.varTypes Tryz.pinned.checked.prog).any (Tryz.pinned.checked.prog.loopsFrom ·))) = true := by kernel_rfl
theorem j6_17 : ((Rows.topDroppedSkillRow.wideKeys == (Tryz.f6.params.toList ++ Rows.topDroppedSkillSpec.plain.varTypes Tryz.pinned.checked.prog ++ Tryz.f6.resultTypes.toList).any (Tryz.pinned.checked.prog.wideKeysFrom ·))) = true := by kernel_rfl
theorem j6_18 : (Rows.topDroppedSkillSpec.vars.all (Tryz.pinned.checked.prog.varReadable ·)) = true := by kernel_rfl
theorem j6_19 : (Tryz.f6.resultTypes.all (fun t => Tryz.pinned.checked.prog.readableRec t && decide (t < Tryz.pinned.checked.prog.types.size))) = true := by kernel_rfl
theorem j6_20 : ((Rows.topDroppedSkillRow.ifacesOut == Tryz.f6.resultTypes.toList.any (Tryz.pinned.checked.prog.ifacesRec ·))) = true := by kernel_rfl
theorem j6_21 : ((Rows.topDroppedSkillRow.loopsOut == Tryz.f6.resultTypes.toList.any (Tryz.pinned.checked.prog.loopsFrom ·))) = true := by kernel_rfl
theorem j6_22 : ((Rows.topDroppedSkillRow.plainKeys == Tryz.pinned.checked.prog.plainKeys)) = true := by kernel_rfl
theorem j6_23 : (Rows.topDroppedSkillRow.shortTexts.isNone) = true := by kernel_rfl
theorem j6_24 : (Tryz.pinned.checked.prog.stopsHeard) = true := by kernel_rfl
theorem j6_25 : (Tryz.pinned.checked.prog.mayEnter) = true := by kernel_rfl
theorem j6_26 : ((Rows.topDroppedSkillRow.lifted == Tryz.pinned.checked.prog.liftsFinal)) = true := by kernel_rfl
theorem j6_27 : ((Tryz.pinned.checked.prog.make == some Rows.topDroppedSkillRow.make)) = true := by kernel_rfl
theorem j6_28 : ((Rows.topDroppedSkillRow.kinds == (if Rows.topDroppedSkillRow.domain.isEmpty then [] else Tryz.f6.params.toList.map fun t => match Tryz.pinned.checked.prog.underlying t with | some (.int k) => some k | _ => none))) = true := by kernel_rfl
theorem j6_29 : ((Rows.topDroppedSkillRow.pinned == Rows.topDroppedSkillRow.pinnedBy)) = true := by kernel_rfl
theorem j6_30 : ((Rows.topDroppedSkillRow.veiled == (Tryz.f6.params.toList ++ Rows.topDroppedSkillSpec.plain.varTypes Tryz.pinned.checked.prog ++ Tryz.f6.resultTypes.toList).any (Tryz.pinned.checked.prog.veiledRec ·))) = true := by kernel_rfl
theorem j6_31 : (Rows.topDroppedSkillRow.veiledFits Tryz.pinned.checked.prog Tryz.f6.params.toList (Tryz.f6.params.toList ++ Rows.topDroppedSkillSpec.plain.varTypes Tryz.pinned.checked.prog ++ Tryz.f6.resultTypes.toList)) = true := by kernel_rfl
theorem j6_and {a b : Bool} (h1 : a = true) (h2 : b = true) : (a && b) = true := by rw [h1, h2]; rfl
theorem j6_all : joinedFacts Tryz.pinned.checked.prog 6 Tryz.f6 Rows.topDroppedSkillSpec Rows.topDroppedSkillRow = true := by
  unfold joinedFacts
  exact j6_and (j6_and (j6_and (j6_and (j6_and (j6_and (j6_and (j6_and (j6_and (j6_and (j6_and (j6_and (j6_and (j6_and (j6_and (j6_and (j6_and (j6_and (j6_and (j6_and (j6_and (j6_and (j6_and (j6_and (j6_and (j6_and (j6_and (j6_and (j6_and (j6_and (j6_and (j6_0) j6_1) j6_2) j6_3) j6_4) j6_5) j6_6) j6_7) j6_8) j6_9) j6_10) j6_11) j6_12) j6_13) j6_14) j6_15) j6_16) j6_17) j6_18) j6_19) j6_20) j6_21) j6_22) j6_23) j6_24) j6_25) j6_26) j6_27) j6_28) j6_29) j6_30) j6_31
end Go.Proofs.YtibmpjhffeinoaaGreat
