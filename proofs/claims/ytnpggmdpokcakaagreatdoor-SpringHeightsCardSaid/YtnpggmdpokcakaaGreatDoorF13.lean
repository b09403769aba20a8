/- The closed facts of the row of function 13. -/
import Derived.Test.YtnpggmdpokcakaaGreatDoorF0
namespace Go.Proofs.YtnpggmdpokcakaaGreatDoor
open Go
set_option maxRecDepth 100000
theorem row13_0 : (Rows.springHeightsRow.wf (OpenSpec.ofChange Rows.springHeightsSpec)) = true := by kernel_rfl
theorem row13_3 : (Tryz.f13.params.all (Tryz.prog.readableRec ·)) = true := by kernel_rfl
theorem row13_4 : (namedTie Tryz.prog Rows.springHeightsRow.named Rows.springHeightsSpec.vars) = true := by kernel_rfl
theorem row13_5 : ((Rows.springHeightsRow.stops == [])) = true := by kernel_rfl
theorem row13_7 : ((Rows.springHeightsRow.knobs == [])) = true := by kernel_rfl
theorem row13_9 : ((Rows.springHeightsRow.inPlace == Tryz.prog.inPlace 13)) = true := by kernel_rfl
theorem row13_10 : ((Rows.springHeightsRow.unfollowed == Tryz.prog.unfollowed 13)) = true := by kernel_rfl
theorem row13_11 : ((Rows.springHeightsRow.recurses == Tryz.prog.recurses 13)) = true := by kernel_rfl
theorem row13_12 : ((Rows.springHeightsRow.named == Tryz.prog.varsNamed 13)) = true := by kernel_rfl
theorem row13_13 : ((Rows.springHeightsRow.maps == (Tryz.f13.params.toList ++ Rows.springHeightsSpec.plain.varTypes Tryz.prog).any (Tryz.prog.mapsRec ·))) = true := by kernel_rfl
theorem row13_14 : ((Rows.springHeightsRow.ifaces == (Tryz.f13.params.toList ++ Rows.springHeightsSpec.plain.varTypes Tryz.prog).any (Tryz.prog.ifacesRec ·))) = true := by kernel_rfl
theorem row13_15 : ((Rows.springHeightsRow.mapsOut == Tryz.prog.mapsAmong Tryz.f13.resultTypes.toList)) = true := by kernel_rfl
theorem row13_16 : ((Rows.springHeightsRow.loops == (Tryz.f13.params.toList ++ Rows.springHeightsSpec.plain.varTypes Tryz.prog).any (Tryz.prog.loopsFrom ·))) = true := by kernel_rfl
theorem row13_17 : ((Rows.springHeightsRow.wideKeys == (Tryz.f13.params.toList ++ Rows.springHeightsSpec.plain.varTypes Tryz.prog ++ Tryz.f13.resultTypes.toList).any (Tryz.prog.wideKeysFrom ·))) = true := by kernel_rfl
theorem row13_18 : (Rows.springHeightsSpec.vars.all (Tryz.prog.varReadable ·)) = true := by kernel_rfl
theorem row13_19 : (Tryz.f13.resultTypes.all (fun t => Tryz.prog.readableRec t && decide (t < Tryz.prog.types.size))) = true := by kernel_rfl
theorem row13_20 : ((Rows.springHeightsRow.ifacesOut == Tryz.f13.resultTypes.toList.any (Tryz.prog.ifacesRec ·))) = true := by kernel_rfl
theorem row13_21 : ((Rows.springHeightsRow.loopsOut == Tryz.f13.resultTypes.toList.any (Tryz.prog.loopsFrom ·))) = true := by kernel_rfl
theorem row13_22 : ((Rows.springHeightsRow.plainKeys == Tryz.prog.plainKeys)) = true := by kernel_rfl
theorem row13_23 : (Rows.springHeightsRow.shortTexts.isNone) = true := by kernel_rfl
theorem row13_26 : ((Rows.springHeightsRow.lifted == Tryz.prog.liftsFinal)) = true := (by rw [lifts_final]; kernel_rfl)
theorem row13_27 : ((Tryz.prog.make == some Rows.springHeightsRow.make)) = true := (by rw [prog_make]; kernel_rfl)
theorem row13_28 : ((Rows.springHeightsRow.kinds == (if Rows.springHeightsRow.domain.isEmpty then [] else Tryz.f13.params.toList.map fun t => match Tryz.prog.underlying t with | some (.int k) => some k | _ => none))) = true := by kernel_rfl
theorem row13_29 : ((Rows.springHeightsRow.pinned == Rows.springHeightsRow.pinnedBy)) = true := by kernel_rfl
theorem row13_30 : ((Rows.springHeightsRow.veiled == (Tryz.f13.params.toList ++ Rows.springHeightsSpec.plain.varTypes Tryz.prog ++ Tryz.f13.resultTypes.toList).any (Tryz.prog.veiledRec ·))) = true := by kernel_rfl
theorem row13_31 : (Rows.springHeightsRow.veiledFits Tryz.prog Tryz.f13.params.toList (Tryz.f13.params.toList ++ Rows.springHeightsSpec.plain.varTypes Tryz.prog ++ Tryz.f13.resultTypes.toList)) = true := by kernel_rfl
theorem closed13 : joinedFacts Tryz.prog 13 Tryz.f13 Rows.springHeightsSpec Rows.springHeightsRow = true := joined_of row13_0 glob1 glob2 row13_3 row13_4 row13_5 glob6 row13_7 glob8 row13_9 row13_10 row13_11 row13_12 row13_13 row13_14 row13_15 row13_16 row13_17 row13_18 row13_19 row13_20 row13_21 row13_22 row13_23 glob24 glob25 row13_26 row13_27 row13_28 row13_29 row13_30 row13_31
end Go.Proofs.YtnpggmdpokcakaaGreatDoor
