/-
  The closed facts of the row of TopCountedLedge, one by one. Printed by gen_facts.py.
-/
import Derived.Test.YtibmpjhffeinoaaGreatTRow
import Derived.JoinedOf
namespace Go.Proofs.YtibmpjhffeinoaaGreat
open Go.RowKit

set_option maxRecDepth 100000
theorem j8_n : Tryz.pinned.checked.prog.funcNamed Rows.topCountedLedgeRow.func = some 8 := by kernel_rfl
theorem j8_0 : (Rows.topCountedLedgeRow.wf (OpenSpec.ofChange Rows.topCountedLedgeSpec)) = true := by kernel_rfl
theorem j8_1 : (laidOutB Tryz.pinned.checked.prog) = true := by kernel_rfl
theorem j8_2 : (mapsRowed Tryz.pinned.checked.prog) = true := by kernel_rfl
theorem j8_3 : (Tryz.f8.params.all (Tryz.pinned.checked.prog.readableRec ·)) = true := by kernel_rfl
theorem j8_4 : (namedTie Tryz.pinned.checked.prog Rows.topCountedLedgeRow.named Rows.topCountedLedgeSpec.vars) = true := by kernel_rfl
theorem j8_5 : ((Rows.topCountedLedgeRow.stops == [])) = true := by kernel_rfl
theorem j8_6 : ((Tryz.pinned.checked.prog.stops == [])) = true := by kernel_rfl
theorem j8_7 : ((Rows.topCountedLedgeRow.knobs == [])) = true := by kernel_rfl
theorem j8_8 : ((Tryz.pinned.checked.prog.stopKnobs == [])) = true := by kernel_rfl
theorem j8_9 : ((Rows.topCountedLedgeRow.inPlace == Tryz.pinned.checked.prog.inPlace 8)) = true := by kernel_rfl
theorem j8_10 : ((Rows.topCountedLedgeRow.unfollowed == Tryz.pinned.checked.prog.unfollowed 8)) = true := by kernel_rfl
theorem j8_11 : ((Rows.topCountedLedgeRow.recurses == Tryz.pinned.checked.prog.recurses 8)) = true := by kernel_rfl
theorem j8_12 : ((Rows.topCountedLedgeRow.named == Tryz.pinned.checked.prog.varsNamed 8)) = true := by kernel_rfl
theorem j8_13 : ((Rows.topCountedLedgeRow.maps == (Tryz.f8.params.toList ++ Rows.topCountedLedgeSpec.plain.varTypes Tryz.pinned.checked.prog).any (Tryz.pinned.checked.prog.mapsRec ·))) = true := by kernel_rfl
theorem j8_14 : ((Rows.topCountedLedgeRow.ifaces == (Tryz.f8.params.toList ++ Rows.topCountedLedgeSpec.plain.varTypes Tryz.pinned.checked.prog).any (Tryz.pinned.checked.prog.ifacesRec ·))) = true := by kernel_rfl
theorem j8_15 : ((Rows.topCountedLedgeRow.mapsOut == Tryz.pinned.checked.prog.mapsAmong Tryz.f8.resultTypes.toList)) = true := by kernel_rfl
theorem j8_16 : ((Rows.topCountedLedgeRow.loops == (Tryz.f8.params.toList ++ Rows.topCountedLedgeSpec.plain.varTypes Tryz.pinned.checked.prog).any (Tryz.pinned.checked.prog.loopsFrom ·))) = true := by kernel_rfl
theorem j8_17 : ((Rows.topCountedLedgeRow.wideKeys == (Tryz.f8.params.toList ++ Rows.topCountedLedgeSpec.plain.varTypes Tryz.pinned.checked.prog ++ Tryz.f8.resultTypes.toList).any (Tryz.pinned.checked.prog.wideKeysFrom ·))) = true := by kernel_rfl
theorem j8_18 : (Rows.topCountedLedgeSpec.vars.all (Tryz.pinned.checked.prog.varReadable ·)) = true := by kernel_rfl
theorem j8_19 : (Tryz.f8.resultTypes.all (fun t => Tryz.pinned.checked.prog.readableRec t && decide (t < Tryz.pinned.checked.prog.types.size))) = true := by kernel_rfl
theorem j8_20 : ((Rows.topCountedLedgeRow.ifacesOut == Tryz.f8.resultTypes.toList.any (Tryz.pinned.checked.prog.ifacesRec ·))) = true := by kernel_rfl
theorem j8_21 : ((Rows.topCountedLedgeRow.loopsOut == Tryz.f8.resultTypes.toList.any (Tryz.pinned.checked.prog.loopsFrom ·))) = true := by kernel_rfl
theorem j8_22 : ((Rows.topCountedLedgeRow.plainKeys == Tryz.pinned.checked.prog.plainKeys)) = true := by kernel_rfl
theorem j8_23 : (Rows.topCountedLedgeRow.shortTexts.isNone) = true := by kernel_rfl
theorem j8_24 : (Tryz.pinned.checked.prog.stopsHeard) = true := by kernel_rfl
theorem j8_25 : (Tryz.pinned.checked.prog.mayEnter) = true := by kernel_rfl
theorem j8_26 : ((Rows.topCountedLedgeRow.lifted == Tryz.pinned.checked.prog.liftsFinal)) = true := by kernel_rfl
theorem j8_27 : ((Tryz.pinned.checked.prog.make == some Rows.topCountedLedgeRow.make)) = true := by kernel_rfl
theorem j8_28 : ((Rows.topCountedLedgeRow.kinds == (if Rows.topCountedLedgeRow.domain.isEmpty then [] else Tryz.f8.params.toList.map fun t => match Tryz.pinned.checked.prog.underlying t with | some (.int k) => some k | _ => none))) = true := by kernel_rfl
theorem j8_29 : ((Rows.topCountedLedgeRow.pinned == Rows.topCountedLedgeRow.pinnedBy)) = true := by kernel_rfl
theorem j8_30 : ((Rows.topCountedLedgeRow.veiled == (Tryz.f8.params.toList ++ Rows.topCountedLedgeSpec.plain.varTypes Tryz.pinned.checked.prog ++ Tryz.f8.resultTypes.toList).any (Tryz.pinned.checked.prog.veiledRec ·))) = true := by kernel_rfl
theorem j8_31 : (Rows.topCountedLedgeRow.veiledFits Tryz.pinned.checked.prog Tryz.f8.params.toList (Tryz.f8.params.toList ++ Rows.topCountedLedgeSpec.plain.varTypes Tryz.pinned.checked.prog ++ Tryz.f8.resultTypes.toList)) = true := by kernel_rfl
theorem j8_and {a b : Bool} (h1 : a = true) (h2 : b = true) : (a && b) = true := by rw [h1, h2]; rfl
theorem j8_all : joinedFacts Tryz.pinned.checked.prog 8 Tryz.f8 Rows.topCountedLedgeSpec Rows.topCountedLedgeRow = true := by
  unfold joinedFacts
  exact j8_and (j8_and (j8_and (j8_and (j8_and (j8_and (j8_and (j8_and (j8_and (j8_and (j8_and (j8_and (j8_and (j8_and (j8_and (j8_and (j8_and (j8_and (j8_and (j8_and (j8_and (j8_and (j8_and (j8_and (j8_and (j8_and (j8_and (j8_and (j8_and (j8_and (j8_and (j8_0) j8_1) j8_2) j8_3) j8_4) j8_5) j8_6) j8_7) j8_8) j8_9) j8_10) j8_11) j8_12) j8_13) j8_14) j8_15) j8_16) j8_17) j8_18) j8_19) j8_20) j8_21) j8_22) j8_23) j8_24) j8_25) j8_26) j8_27) j8_28) j8_29) j8_30) j8_31
end Go.Proofs.YtibmpjhffeinoaaGreat
