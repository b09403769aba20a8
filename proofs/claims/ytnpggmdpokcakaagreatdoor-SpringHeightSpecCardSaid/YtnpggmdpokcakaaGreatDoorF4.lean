/- The closed facts of the row of function 4. -/
import Derived.Test.YtnpggmdpokcakaaGreatDoorF0
namespace Go.Proofs.YtnpggmdpokcakaaGreatDoor
open Go
set_option maxRecDepth 100000
theorem row4_0 : (Rows.springHeightSpecRow.wf (OpenSpec.ofChange Rows.springHeightSpecSpec)) = true := by kernel_rfl
theorem row4_3 : (Tryz.f4.params.all (Tryz.prog.readableRec ·)) = true := by kernel_rfl
theorem row4_4 : (namedTie Tryz.prog Rows.springHeightSpecRow.named Rows.springHeightSpecSpec.vars) = true := by kernel_rfl
theorem row4_5 : ((Rows.springHeightSpecRow.stops == [])) = true := by kernel_rfl
theorem row4_7 : ((Rows.springHeightSpecRow.knobs == [])) = true := by kernel_rfl
theorem row4_9 : ((Rows.springHeightSpecRow.inPlace == Tryz.prog.inPlace 4)) = true := by kernel_rfl
theorem row4_10 : ((Rows.springHeightSpecRow.unfollowed == Tryz.prog.unfollowed 4)) = true := by kernel_rfl
theorem row4_11 : ((Rows.springHeightSpecRow.recurses == Tryz.prog.recurses 4)) = true := by kernel_rfl
theorem row4_12 : ((Rows.springHeightSpecRow.named == Tryz.prog.varsNamed 4)) = true := by kernel_rfl
theorem row4_13 : ((Rows.springHeightSpecRow.maps == (Tryz.f4.params.toList ++ Rows.springHeightSpecSpec.plain.varTypes Tryz.prog).any (Tryz.prog.mapsRec ·))) = true := by kernel_rfl
theorem row4_14 : ((Rows.springHeightSpecRow.ifaces == (Tryz.f4.params.toList ++ Rows.springHeightSpecSpec.plain.varTypes Tryz.prog).any (Tryz.prog.ifacesRec ·))) = true := by kernel_rfl
theorem row4_15 : ((Rows.springHeightSpecRow.mapsOut == Tryz.prog.mapsAmong Tryz.f4.resultTypes.toList)) = true := by kernel_rfl
theorem row4_16 : ((Rows.springHeightSpecRow.loops == (Tryz.f4.params.toList ++ Rows.springHeightSpecSpec.plain.varTypes Tryz.prog).any (Tryz.prog.loopsFrom ·))) = true := by kernel_rfl
theorem row4_17 : ((Rows.springHeightSpecRow.wideKeys == (Tryz.f4.params.toList ++ Rows.springHeightSpecSpec.plain.varTypes Tryz.prog ++ Tryz.f4.resultTypes.toList).any (Tryz.prog.wideKeysFrom ·))) = true := by kernel_rfl
theorem row4_18 : (Rows.springHeightSpecSpec.vars.all (Tryz.prog.varReadable ·)) = true := by kernel_rfl
theorem row4_19 : (Tryz.f4.resultTypes.all (fun t => Tryz.prog.readableRec t && decide (t < Tryz.prog.types.size))) = true := by kernel_rfl
theorem row4_20 : ((Rows.springHeightSpecRow.ifacesOut == Tryz.f4.resultTypes.toList.any (Tryz.prog.ifacesRec ·))) = true := by kernel_rfl
theorem row4_21 : ((Rows.springHeightSpecRow.loopsOut == Tryz.f4.resultTypes.toList.any (Tryz.prog.loopsFrom ·))) = true := by kernel_rfl
theorem row4_22 : ((Rows.springHeightSpecRow.plainKeys == Tryz.prog.plainKeys)) = true := by kernel_rfl
theorem row4_23 : (Rows.springHeightSpecRow.shortTexts.isNone) = true := by kernel_rfl
theorem row4_26 : ((Rows.springHeightSpecRow.lifted == Tryz.prog.liftsFinal)) = true := (by rw [lifts_final]; kernel_rfl)
theorem row4_27 : ((Tryz.prog.make == some Rows.springHeightSpecRow.make)) = true := (by rw [prog_make]; kernel_rfl)
theorem row4_28 : ((Rows.springHeightSpecRow.kinds == (if Rows.springHeightSpecRow.domain.isEmpty then [] else Tryz.f4.params.toList.map fun t => match Tryz.prog.underlying t with | some (.int k) => some k | _ => none))) = true := by kernel_rfl
theorem row4_29 : ((Rows.springHeightSpecRow.pinned == Rows.springHeightSpecRow.pinnedBy)) = true := by kernel_rfl
theorem row4_30 : ((Rows.springHeightSpecRow.veiled == (Tryz.f4.params.toList ++ Rows.springHeightSpecSpec.plain.varTypes Tryz.prog ++ Tryz.f4.resultTypes.toList).any (Tryz.prog.veiledRec ·))) = true := by kernel_rfl
theorem row4_31 : (Rows.springHeightSpecRow.veiledFits Tryz.prog Tryz.f4.params.toList (Tryz.f4.params.toList ++ Rows.springHeightSpecSpec.plain.varTypes Tryz.prog ++ Tryz.f4.resultTypes.toList)) = true := by kernel_rfl
theorem closed4 : joinedFacts Tryz.prog 4 Tryz.f4 Rows.springHeightSpecSpec Rows.springHeightSpecRow = true := joined_of row4_0 glob1 glob2 row4_3 row4_4 row4_5 glob6 row4_7 glob8 row4_9 row4_10 row4_11 row4_12 row4_13 row4_14 row4_15 row4_16 row4_17 row4_18 row4_19 row4_20 row4_21 row4_22 row4_23 glob24 glob25 row4_26 row4_27 row4_28 row4_29 row4_30 row4_31
end Go.Proofs.YtnpggmdpokcakaaGreatDoor
