/-
  The closed facts of the row of TopPairedLedge, one by one. Printed by gen_facts.py.
-/
import Derived.Test.YtibmpjhffeinoaaGreatTRow
import Derived.JoinedOf
namespace Go.Proofs.YtibmpjhffeinoaaGreat
open Go.RowKit

set_option maxRecDepth 100000
theorem j5_n : Tryz.pinned.checked.prog.funcNamed Rows.topPairedLedgeRow.func = some 5 := by kernel_rfl
theorem j5_0 : (Rows.topPairedLedgeRow.wf (OpenSpec.ofChange Rows.topPairedLedgeSpec)) = true := by kernel_rfl
theorem j5_1 : (laidOutB Tryz.pinned.checked.prog) = true := by kernel_rfl
theorem j5_2 : (mapsRowed Tryz.pinned.checked.prog) = true := by kernel_rfl
theorem j5_3 : (Tryz.f5.params.all (Tryz.pinned.checked.prog.readableRec ·)) = true := by kernel_rfl
theorem j5_4 : (namedTie Tryz.pinned.checked.prog Rows.topPairedLedgeRow.named Rows.topPairedLedgeSpec.vars) = true := by kernel_rfl
theorem j5_5 : ((Rows.topPairedLedgeRow.stops == [])) = true := by kernel_rfl
theorem j5_6 : ((Tryz.pinned.checked.prog.stops == [])) = true := by kernel_rfl
theorem j5_7 : ((Rows.topPairedLedgeRow.knobs == [])) = true := by kernel_rfl
theorem j5_8 : ((Tryz.pinned.checked.prog.stopKnobs == [])) = true := by kernel_rfl
theorem j5_9 : ((Rows.topPairedLedgeRow.inPlace == Tryz.pinned.checked.prog.inPlace 5)) = true := by kernel_rfl
theorem j5_10 : ((Rows.topPairedLedgeRow.unfollowed == Tryz.pinned.checked.prog.unfollowed 5)) = true := by kernel_rfl
theorem j5_11 : ((Rows.topPairedLedgeRow.recurses == Tryz.pinned.checked.prog.recurses 5)) = true := by kernel_rfl
theorem j5_12 : ((Rows.topPairedLedgeRow.named == Tryz.pinned.checked.prog.varsNamed 5)) = true := by kernel_rfl
theorem j5_13 : ((Rows.topPairedLedgeRow.maps == (Tryz.f5.params.toList ++ Rows.topPairedLedgeSpec.plain.varTypes Tryz.pinned.checked.prog).any (Tryz.pinned.checked.prog.mapsRec ·))) = true := by kernel_rfl
theorem j5_14 : ((Rows.topPairedLedgeRow.ifaces == (Tryz.f5.params.toList ++ Rows.topPairedLedgeSpec.plain.varTypes Tryz.pinned.checked.prog).any (Tryz.pinned.checked.prog.ifacesRec ·))) = true := by kernel_rfl
theorem j5_15 : ((Rows.topPairedLedgeRow.mapsOut == Tryz.pinned.checked.prog.mapsAmong Tryz.f5.resultTypes.toList)) = true := by kernel_rfl
theorem j5_16 : ((Rows.topPairedLedgeRow.loops == (Tryz.f5.params.toList ++ Rows.topPairedLedgeSpec.plain.varTypes Tryz.pinned.checked.prog).any (Tryz.pinned.checked.prog.loopsFrom ·))) = true := by kernel_rfl
theorem j5_17 : ((Rows.topPairedLedgeRow.wideKeys == (Tryz.f5.params.toList ++ Rows.topPairedLedgeSpec.plain.varTypes Tryz.pinned.checked.prog ++ Tryz.f5.resultTypes.toList).any (Tryz.pinned.checked.prog.wideKeysFrom ·))) = true := by kernel_rfl
theorem j5_18 : (Rows.topPairedLedgeSpec.vars.all (Tryz.pinned.checked.prog.varReadable ·)) = true := by kernel_rfl
theorem j5_19 : (Tryz.f5.resultTypes.all (fun t => Tryz.pinned.checked.prog.readableRec t && decide (t < Tryz.pinned.checked.prog.types.size))) = true := by kernel_rfl
theorem j5_20 : ((Rows.topPairedLedgeRow.ifacesOut == Tryz.f5.resultTypes.toList.any (Tryz.pinned.checked.prog.ifacesRec ·))) = true := by kernel_rfl
theorem j5_21 : ((Rows.topPairedLedgeRow.loopsOut == Tryz.f5.resultTypes.toList.any (Tryz.pinned.checked.prog.loopsFrom ·))) = true := by kernel_rfl
theorem j5_22 : ((Rows.topPairedLedgeRow.plainKeys == Tryz.pinned.checked.prog.plainKeys)) = true := by kernel_rfl
theorem j5_23 : (Rows.topPairedLedgeRow.shortTexts.isNone) = true := by kernel_rfl
theorem j5_24 : (Tryz.pinned.checked.prog.stopsHeard) = true := by kernel_rfl
theorem j5_25 : (Tryz.pinned.checked.prog.mayEnter) = true := by kernel_rfl
theorem j5_26 : ((Rows.topPairedLedgeRow.lifted == Tryz.pinned.checked.prog.liftsFinal)) = true := by kernel_rfl
theorem j5_27 : ((Tryz.pinned.checked.prog.make == some Rows.topPairedLedgeRow.make)) = true := by kernel_rfl
theorem j5_28 : ((Rows.topPairedLedgeRow.kinds == (if Rows.topPairedLedgeRow.domain.isEmpty then [] else Tryz.f5.params.toList.map fun t => match Tryz.pinned.checked.prog.underlying t with | some (.int k) => some k | _ => none))) = true := by kernel_rfl
theorem j5_29 : ((Rows.topPairedLedgeRow.pinned == Rows.topPairedLedgeRow.pinnedBy)) = true := by kernel_rfl
theorem j5_30 : ((Rows.topPairedLedgeRow.veiled == (Tryz.f5.params.toList ++ Rows.topPairedLedgeSpec.plain.varTypes Tryz.pinned.checked.prog ++ Tryz.f5.resultTypes.toList).any (Tryz.pinned.checked.prog.veiledRec ·))) = true := by kernel_rfl
theorem j5_31 : (Rows.topPairedLedgeRow.veiledFits Tryz.pinned.checked.prog Tryz.f5.params.toList (Tryz.f5.params.toList ++ Rows.topPairedLedgeSpec.plain.varTypes Tryz.pinned.checked.prog ++ Tryz.f5.resultTypes.toList)) = true := by kernel_rfl
theorem j5_and {a b : Bool} (h1 : a = true) (h2 : b = true) : (a && b) = true := by rw [h1, h2]; rfl
theorem j5_all : joinedFacts Tryz.pinned.checked.prog 5 Tryz.f5 Rows.topPairedLedgeSpec Rows.topPairedLedgeRow = true := by
  unfold joinedFacts
  exact j5_and (j5_and (j5_and (j5_and (j5_and (j5_and (j5_and (j5_and (j5_and (j5_and (j5_and (j5_and (j5_and (j5_and (j5_and (j5_and (j5_and (j5_and (j5_and (j5_and (j5_and (j5_and (j5_and (j5_and (j5_and (j5_and (j5_and (j5_and (j5_and (j5_and (j5_and (j5_0) j5_1) j5_2) j5_3) j5_4) j5_5) j5_6) j5_7) j5_8) j5_9) j5_10) j5_11) j5_12) j5_13) j5_14) j5_15) j5_16) j5_17) j5_18) j5_19) j5_20) j5_21) j5_22) j5_23) j5_24) j5_25) j5_26) j5_27) j5_28) j5_29) j5_30) j5_31
end Go.Proofs.YtibmpjhffeinoaaGreat
