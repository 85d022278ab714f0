/-
  The closed facts of the row of TopPinnedSkill, one by one. Printed by gen_facts.py.
-/
import Derived.Test.YtibmpjhffeinoaaGreatTRow
import Derived.JoinedOf
namespace Go.Proofs.YtibmpjhffeinoaaGreat
open Go.RowKit

set_option maxRecDepth 100000
theorem j4_n : Tryz.pinned.checked.prog.funcNamed Rows.topPinnedSkillRow.func = some 4 := by kernel_rfl
theorem j4_0 : (Rows.topPinnedSkillRow.wf (OpenSpec.ofChange Rows.topPinnedSkillSpec)) = true := by kernel_rfl
theorem j4_1 : (laidOutB Tryz.pinned.checked.prog) = true := by kernel_rfl
theorem j4_2 : (mapsRowed Tryz.pinned.checked.prog) = true := by kernel_rfl
theorem j4_3 : (Tryz.f4.params.all (Tryz.pinned.checked.prog.readableRec ·)) = true := by kernel_rfl
theorem j4_4 : (namedTie Tryz.pinned.checked.prog Rows.topPinnedSkillRow.named Rows.topPinnedSkillSpec.vars) = true := by kernel_rfl
theorem j4_5 : ((Rows.topPinnedSkillRow.stops == [])) = true := by kernel_rfl
theorem j4_6 : ((Tryz.pinned.checked.prog.stops == [])) = true := by kernel_rfl
theorem j4_7 : ((Rows.topPinnedSkillRow.knobs == [])) = true := by kernel_rfl
theorem j4_8 : ((Tryz.pinned.checked.prog.stopKnobs == [])) = true := by kernel_rfl
theorem j4_9 : ((Rows.topPinnedSkillRow.inPlace == Tryz.pinned.checked.prog.inPlace 4)) = true := by kernel_rfl
theorem j4_10 : ((Rows.topPinnedSkillRow.unfollowed == Tryz.pinned.checked.prog.unfollowed 4)) = true := by kernel_rfl
theorem j4_11 : ((Rows.topPinnedSkillRow.recurses == Tryz.pinned.checked.prog.recurses 4)) = true := by kernel_rfl
theorem j4_12 : ((Rows.topPinnedSkillRow.named == Tryz.pinned.checked.prog.varsNamed 4)) = true := by kernel_rfl
theorem j4_13 : ((Rows.topPinnedSkillRow.maps == (Tryz.f4.params.toList ++ Rows.topPinnedSkillSpec.plain.varTypes Tryz.pinned.checked.prog).any (Tryz.pinned.checked.prog.mapsRec ·))) = true := by kernel_rfl
theorem j4_14 : ((Rows.topPinnedSkillRow.ifaces == (Tryz.f4.params.toList ++ Rows.topPinnedSkillSpec.plain.varTypes Tryz.pinned.checked.prog).any (Tryz.pinned.checked.prog.ifacesRec ·))) = true := by kernel_rfl
theorem j4_15 : ((Rows.topPinnedSkillRow.mapsOut == Tryz.pinned.checked.prog.mapsAmong Tryz.f4.resultTypes.toList)) = true := by kernel_rfl
theorem j4_16 : ((Rows.topPinnedSkillRow.loops == (Tryz.f4.params.toList ++ Rows.topPinnedSkillSpec.plain.varTypes Tryz.pinned.checked.prog).any (Tryz.pinned.checked.prog.loopsFrom ·))) = true := by kernel_rfl
theorem j4_17 : ((Rows.topPinnedSkillRow.wideKeys == (Tryz.f4.params.toList ++ Rows.topPinnedSkillSpec.plain.varTypes Tryz.pinned.checked.prog ++ Tryz.f4.resultTypes.toList).any (Tryz.pinned.checked.prog.wideKeysFrom ·))) = true := by kernel_rfl
theorem j4_18 : (Rows.topPinnedSkillSpec.vars.all (Tryz.pinned.checked.prog.varReadable ·)) = true := by kernel_rfl
theorem j4_19 : (Tryz.f4.resultTypes.all (fun t => Tryz.pinned.checked.prog.readableRec t && decide (t < Tryz.pinned.checked.prog.types.size))) = true := by kernel_rfl
theorem j4_20 : ((Rows.topPinnedSkillRow.ifacesOut == Tryz.f4.resultTypes.toList.any (Tryz.pinned.checked.prog.ifacesRec ·))) = true := by kernel_rfl
theorem j4_21 : ((Rows.topPinnedSkillRow.loopsOut == Tryz.f4.resultTypes.toList.any (Tryz.pinned.checked.prog.loopsFrom ·))) = true := by kernel_rfl
theorem j4_22 : ((Rows.topPinnedSkillRow.plainKeys == Tryz.pinned.checked.prog.plainKeys)) = true := by kernel_rfl
theorem j4_23 : (Rows.topPinnedSkillRow.shortTexts.isNone) = true := by kernel_rfl
theorem j4_24 : (Tryz.pinned.checked.prog.stopsHeard) = true := by kernel_rfl
theorem j4_25 : (Tryz.pinned.checked.prog.mayEnter) = true := by kernel_rfl
theorem j4_26 : ((Rows.topPinnedSkillRow.lifted == Tryz.pinned.checked.prog.liftsFinal)) = true := by kernel_rfl
theorem j4_27 : ((Tryz.pinned.checked.prog.make == some Rows.topPinnedSkillRow.make)) = true := by kernel_rfl
theorem j4_28 : ((Rows.topPinnedSkillRow.kinds == (if Rows.topPinnedSkillRow.domain.isEmpty then [] else Tryz.f4.params.toList.map fun t => match Tryz.pinned.checked.prog.underlying t with | some (.int k) => some k | _ => none))) = true := by kernel_rfl
theorem j4_29 : ((Rows.topPinnedSkillRow.pinned == Rows.topPinnedSkillRow.pinnedBy)) = true := by kernel_rfl
theorem j4_30 : ((Rows.topPinnedSkillRow.veiled == (Tryz.f4.params.toList ++ Rows.topPinnedSkillSpec.plain.varTypes Tryz.pinned.checked.prog ++ Tryz.f4.resultTypes.toList).any (Tryz.pinned.checked.prog.veiledRec ·))) = true := by kernel_rfl
theorem j4_31 : (Rows.topPinnedSkillRow.veiledFits Tryz.pinned.checked.prog Tryz.f4.params.toList (Tryz.f4.params.toList ++ Rows.topPinnedSkillSpec.plain.varTypes Tryz.pinned.checked.prog ++ Tryz.f4.resultTypes.toList)) = true := by kernel_rfl
theorem j4_and {a b : Bool} (h1 : a = true) (h2 : b = true) : (a && b) = true := by rw [h1, h2]; rfl
theorem j4_all : joinedFacts Tryz.pinned.checked.prog 4 Tryz.f4 Rows.topPinnedSkillSpec Rows.topPinnedSkillRow = true := by
  unfold joinedFacts
  exact j4_and (j4_and (j4_and (j4_and (j4_and (j4_and (j4_and (j4_and (j4_and (j4_and (j4_and (j4_and (j4_and (j4_and (j4_and (j4_and (j4_and (j4_and (j4_and (j4_and (j4_and (j4_and (j4_and (j4_and (j4_and (j4_and (j4_and (j4_and (j4_and (j4_and (j4_and (j4_0) j4_1) j4_2) j4_3) j4_4) j4_5) j4_6) j4_7) j4_8) j4_9) j4_10) j4_11) j4_12) j4_13) j4_14) j4_15) j4_16) j4_17) j4_18) j4_19) j4_20) j4_21) j4_22) j4_23) j4_24) j4_25) j4_26) j4_27) j4_28) j4_29) j4_30) j4_31
end Go.Proofs.YtibmpjhffeinoaaGreat
