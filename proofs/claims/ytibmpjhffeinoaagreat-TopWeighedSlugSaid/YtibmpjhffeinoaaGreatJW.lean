/-
  The closed facts of the row of TopWeighedSlug, one by one. Printed by gen_facts.py.
-/
import Derived.Test.YtibmpjhffeinoaaGreatTRow
import Derived.JoinedOf
namespace Go.Proofs.YtibmpjhffeinoaaGreat
open Go.RowKit

set_option maxRecDepth 100000
theorem j7_n : Tryz.pinned.checked.prog.funcNamed Rows.topWeighedSlugRow.func = some 7 := by kernel_rfl
theorem j7_0 : (Rows.topWeighedSlugRow.wf (OpenSpec.ofChange Rows.topWeighedSlugSpec)) = true := by kernel_rfl
theorem j7_1 : (laidOutB Tryz.pinned.checked.prog) = true := by kernel_rfl
theorem j7_2 : (mapsRowed Tryz.pinned.checked.prog) = true := by kernel_rfl
theorem j7_3 : (Tryz.f7.params.all (Tryz.pinned.checked.prog.readableRec ·)) = true := by kernel_rfl
theorem j7_4 : (namedTie Tryz.pinned.checked.prog Rows.topWeighedSlugRow.named Rows.topWeighedSlugSpec.vars) = true := by kernel_rfl
theorem j7_5 : ((Rows.topWeighedSlugRow.stops == [])) = true := by kernel_rfl
theorem j7_6 : ((Tryz.pinned.checked.prog.stops == [])) = true := by kernel_rfl
theorem j7_7 : ((Rows.topWeighedSlugRow.knobs == [])) = true := by kernel_rfl
theorem j7_8 : ((Tryz.pinned.checked.prog.stopKnobs == [])) = true := by kernel_rfl
theorem j7_9 : ((Rows.topWeighedSlugRow.inPlace == Tryz.pinned.checked.prog.inPlace 7)) = true := by kernel_rfl
theorem j7_10 : ((Rows.topWeighedSlugRow.unfollowed == Tryz.pinned.checked.prog.unfollowed 7)) = true := by kernel_rfl
theorem j7_11 : ((Rows.topWeighedSlugRow.recurses == Tryz.pinned.checked.prog.recurses 7)) = true := by kernel_rfl
theorem j7_12 : ((Rows.topWeighedSlugRow.named == Tryz.pinned.checked.prog.varsNamed 7)) = true := by kernel_rfl
theorem j7_13 : ((Rows.topWeighedSlugRow.maps == (Tryz.f7.params.toList ++ Rows.topWeighedSlugSpec.plain.varTypes Tryz.pinned.checked.prog).any (Tryz.pinned.checked.prog.mapsRec ·))) = true := by kernel_rfl
theorem j7_14 : ((Rows.topWeighedSlugRow.ifaces == (Tryz.f7.params.toList ++ Rows.topWeighedSlugSpec.plain.varTypes Tryz.pinned.checked.prog).any (Tryz.pinned.checked.prog.ifacesRec ·))) = true := by kernel_rfl
theorem j7_15 : ((Rows.topWeighedSlugRow.mapsOut == Tryz.pinned.checked.prog.mapsAmong Tryz.f7.resultTypes.toList)) = true := by kernel_rfl
theorem j7_16 : ((Rows.topWeighedSlugRow.loops == (Tryz.f7.params.toList ++ Rows.topWeighedSlugSpec.plain.varTypes Tryz.pinned.checked.prog).any (Tryz.pinned.checked.prog.loopsFrom ·))) = true := by kernel_rfl
theorem j7_17 : ((Rows.topWeighedSlugRow.wideKeys == (Tryz.f7.params.toList ++ Rows.topWeighedSlugSpec.plain.varTypes Tryz.pinned.checked.prog ++ Tryz.f7.resultTypes.toList).any (Tryz.pinned.checked.prog.wideKeysFrom ·))) = true := by kernel_rfl
theorem j7_18 : (Rows.topWeighedSlugSpec.vars.all (Tryz.pinned.checked.prog.varReadable ·)) = true := by kernel_rfl
theorem j7_19 : (Tryz.f7.resultTypes.all (fun t => Tryz.pinned.checked.prog.readableRec t && decide (t < Tryz.pinned.checked.prog.types.size))) = true := by kernel_rfl
theorem j7_20 : ((Rows.topWeighedSlugRow.ifacesOut == Tryz.f7.resultTypes.toList.any (Tryz.pinned.checked.prog.ifacesRec ·))) = true := by kernel_rfl
theorem j7_21 : ((Rows.topWeighedSlugRow.loopsOut == Tryz.f7.resultTypes.toList.any (Tryz.pinned.checked.prog.loopsFrom ·))) = true := by kernel_rfl
theorem j7_22 : ((Rows.topWeighedSlugRow.plainKeys == Tryz.pinned.checked.prog.plainKeys)) = true := by kernel_rfl
theorem j7_23 : (Rows.topWeighedSlugRow.shortTexts.isNone) = true := by kernel_rfl
theorem j7_24 : (Tryz.pinned.checked.prog.stopsHeard) = true := by kernel_rfl
theorem j7_25 : (Tryz.pinned.checked.prog.mayEnter) = true := by kernel_rfl
theorem j7_26 : ((Rows.topWeighedSlugRow.lifted == Tryz.pinned.checked.prog.liftsFinal)) = true := by kernel_rfl
theorem j7_27 : ((Tryz.pinned.checked.prog.make == some Rows.topWeighedSlugRow.make)) = true := by kernel_rfl
theorem j7_28 : ((Rows.topWeighedSlugRow.kinds == (if Rows.topWeighedSlugRow.domain.isEmpty then [] else Tryz.f7.params.toList.map fun t => match Tryz.pinned.checked.prog.underlying t with | some (.int k) => some k | _ => none))) = true := by kernel_rfl
theorem j7_29 : ((Rows.topWeighedSlugRow.pinned == Rows.topWeighedSlugRow.pinnedBy)) = true := by kernel_rfl
theorem j7_30 : ((Rows.topWeighedSlugRow.veiled == (Tryz.f7.params.toList ++ Rows.topWeighedSlugSpec.plain.varTypes Tryz.pinned.checked.prog ++ Tryz.f7.resultTypes.toList).any (Tryz.pinned.checked.prog.veiledRec ·))) = true := by kernel_rfl
theorem j7_31 : (Rows.topWeighedSlugRow.veiledFits Tryz.pinned.checked.prog Tryz.f7.params.toList (Tryz.f7.params.toList ++ Rows.topWeighedSlugSpec.plain.varTypes Tryz.pinned.checked.prog ++ Tryz.f7.resultTypes.toList)) = true := by kernel_rfl
theorem j7_and {a b : Bool} (h1 : a = true) (h2 : b = true) : (a && b) = true := by rw [h1, h2]; rfl
theorem j7_all : joinedFacts Tryz.pinned.checked.prog 7 Tryz.f7 Rows.topWeighedSlugSpec Rows.topWeighedSlugRow = true := by
  unfold joinedFacts
  exact j7_and (j7_and (j7_and (j7_and (j7_and (j7_and (j7_and (j7_and (j7_and (j7_and (j7_and (j7_and (j7_and (j7_and (j7_and (j7_and (j7_and (j7_and (j7_and (j7_and (j7_and (j7_and (j7_and (j7_and (j7_and (j7_and (j7_and (j7_and (j7_and (j7_and (j7_and (j7_0) j7_1) j7_2) j7_3) j7_4) j7_5) j7_6) j7_7) j7_8) j7_9) j7_10) j7_11) j7_12) j7_13) j7_14) j7_15) j7_16) j7_17) j7_18) j7_19) j7_20) j7_21) j7_22) j7_23) j7_24) j7_25) j7_26) j7_27) j7_28) j7_29) j7_30) j7_31
end Go.Proofs.YtibmpjhffeinoaaGreat
