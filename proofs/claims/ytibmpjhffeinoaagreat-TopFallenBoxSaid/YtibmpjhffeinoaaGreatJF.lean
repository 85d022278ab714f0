/-
  The closed facts of the row of TopFallenBox, one by one. Printed by gen_facts.py.
-/
import Derived.Test.YtibmpjhffeinoaaGreatTRow
import Derived.JoinedOf
namespace Go.Proofs.YtibmpjhffeinoaaGreat
open Go.RowKit

set_option maxRecDepth 100000
theorem j9_n : Tryz.pinned.checked.prog.funcNamed Rows.topFallenBoxRow.func = some 9 := by kernel_rfl
theorem j9_0 : (Rows.topFallenBoxRow.wf (OpenSpec.ofChange Rows.topFallenBoxSpec)) = true := by kernel_rfl
theorem j9_1 : (laidOutB Tryz.pinned.checked.prog) = true := by kernel_rfl
theorem j9_2 : (mapsRowed Tryz.pinned.checked.prog) = true := by kernel_rfl
theorem j9_3 : (Tryz.f9.params.all (Tryz.pinned.checked.prog.readableRec ·)) = true := by kernel_rfl
theorem j9_4 : (namedTie Tryz.pinned.checked.prog Rows.topFallenBoxRow.named Rows.topFallenBoxSpec.vars) = true := by kernel_rfl
theorem j9_5 : ((Rows.topFallenBoxRow.stops == [])) = true := by kernel_rfl
theorem j9_6 : ((Tryz.pinned.checked.prog.stops == [])) = true := by kernel_rfl
theorem j9_7 : ((Rows.topFallenBoxRow.knobs == [])) = true := by kernel_rfl
theorem j9_8 : ((Tryz.pinned.checked.prog.stopKnobs == [])) = true := by kernel_rfl
theorem j9_9 : ((Rows.topFallenBoxRow.inPlace == Tryz.pinned.checked.prog.inPlace 9)) = true := by kernel_rfl
theorem j9_10 : ((Rows.topFallenBoxRow.unfollowed == Tryz.pinned.checked.prog.unfollowed 9)) = true := by kernel_rfl
theorem j9_11 : ((Rows.topFallenBoxRow.recurses == Tryz.pinned.checked.prog.recurses 9)) = true := by kernel_rfl
theorem j9_12 : ((Rows.topFallenBoxRow.named == Tryz.pinned.checked.prog.varsNamed 9)) = true := by kernel_rfl
theorem j9_13 : ((Rows.topFallenBoxRow.maps == (Tryz.f9.params.toList ++ Rows.topFallenBoxSpec.plain.varTypes Tryz.pinned.checked.prog).any (Tryz.pinned.checked.prog.mapsRec ·))) = true := by kernel_rfl
theorem j9_14 : ((Rows.topFallenBoxRow.ifaces == (Tryz.f9.params.toList ++ Rows.topFallenBoxSpec.plain.varTypes Tryz.pinned.checked.prog).any (Tryz.pinned.checked.prog.ifacesRec ·))) = true := by kernel_rfl
theorem j9_15 : ((Rows.topFallenBoxRow.mapsOut == Tryz.pinned.checked.prog.mapsAmong Tryz.f9.resultTypes.toList)) = true := by kernel_rfl
theorem j9_16 : ((Rows.topFallenBoxRow.loops == (Tryz.f9.params.toList ++ Rows.topFallenBoxSpec.plain.varTypes Tryz.pinned.checked.prog).any (Tryz.pinned.checked.prog.loopsFrom ·))) = true := by kernel_rfl
theorem j9_17 : ((Rows.topFallenBoxRow.wideKeys == (Tryz.f9.params.toList ++ Rows.topFallenBoxSpec.plain.varTypes Tryz.pinned.checked.prog ++ Tryz.f9.resultTypes.toList).any (Tryz.pinned.checked.prog.wideKeysFrom ·))) = true := by kernel_rfl
theorem j9_18 : (Rows.topFallenBoxSpec.vars.all (Tryz.pinned.checked.prog.varReadable ·)) = true := by kernel_rfl
theorem j9_19 : (Tryz.f9.resultTypes.all (fun t => Tryz.pinned.checked.prog.readableRec t && decide (t < Tryz.pinned.checked.prog.types.size))) = true := by kernel_rfl
theorem j9_20 : ((Rows.topFallenBoxRow.ifacesOut == Tryz.f9.resultTypes.toList.any (Tryz.pinned.checked.prog.ifacesRec ·))) = true := by kernel_rfl
theorem j9_21 : ((Rows.topFallenBoxRow.loopsOut == Tryz.f9.resultTypes.toList.any (Tryz.pinned.checked.prog.loopsFrom ·))) = true := by kernel_rfl
theorem j9_22 : ((Rows.topFallenBoxRow.plainKeys == Tryz.pinned.checked.prog.plainKeys)) = true := by kernel_rfl
theorem j9_23 : (Rows.topFallenBoxRow.shortTexts.isNone) = true := by kernel_rfl
theorem j9_24 : (Tryz.pinned.checked.prog.stopsHeard) = true := by kernel_rfl
theorem j9_25 : (Tryz.pinned.checked.prog.mayEnter) = true := by kernel_rfl
theorem j9_26 : ((Rows.topFallenBoxRow.lifted == Tryz.pinned.checked.prog.liftsFinal)) = true := by kernel_rfl
theorem j9_27 : ((Tryz.pinned.checked.prog.make == some Rows.topFallenBoxRow.make)) = true := by kernel_rfl
theorem j9_28 : ((Rows.topFallenBoxRow.kinds == (if Rows.topFallenBoxRow.domain.isEmpty then [] else Tryz.f9.params.toList.map fun t => match Tryz.pinned.checked.prog.underlying t with | some (.int k) => some k | _ => none))) = true := by kernel_rfl
theorem j9_29 : ((Rows.topFallenBoxRow.pinned == Rows.topFallenBoxRow.pinnedBy)) = true := by kernel_rfl
theorem j9_30 : ((Rows.topFallenBoxRow.veiled == (Tryz.f9.params.toList ++ Rows.topFallenBoxSpec.plain.varTypes Tryz.pinned.checked.prog ++ Tryz.f9.resultTypes.toList).any (Tryz.pinned.checked.prog.veiledRec ·))) = true := by kernel_rfl
theorem j9_31 : (Rows.topFallenBoxRow.veiledFits Tryz.pinned.checked.prog Tryz.f9.params.toList (Tryz.f9.params.toList ++ Rows.topFallenBoxSpec.plain.varTypes Tryz.pinned.checked.prog ++ Tryz.f9.resultTypes.toList)) = true := by kernel_rfl
theorem j9_and {a b : Bool} (h1 : a = true) (h2 : b = true) : (a && b) = true := by rw [h1, h2]; rfl
theorem j9_all : joinedFacts Tryz.pinned.checked.prog 9 Tryz.f9 Rows.topFallenBoxSpec Rows.topFallenBoxRow = true := by
  unfold joinedFacts
  exact j9_and (j9_and (j9_and (j9_and (j9_and (j9_and (j9_and (j9_and (j9_and (j9_and (j9_and (j9_and (j9_and (j9_and (j9_and (j9_and (j9_and (j9_and (j9_and (j9_and (j9_and (j9_and (j9_and (j9_and (j9_and (j9_and (j9_and (j9_and (j9_and (j9_and (j9_and (j9_0) j9_1) j9_2) j9_3) j9_4) j9_5) j9_6) j9_7) j9_8) j9_9) j9_10) j9_11) j9_12) j9_13) j9_14) j9_15) j9_16) j9_17) j9_18) j9_19) j9_20) j9_21) j9_22) j9_23) j9_24) j9_25) j9_26) j9_27) j9_28) j9_29) j9_30) j9_31
end Go.Proofs.YtibmpjhffeinoaaGreat
