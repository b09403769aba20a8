/- The closed facts of the row of function 11. -/
import Derived.Test.YtnpggmdpokcakaaGreatDoorF0
namespace Go.Proofs.YtnpggmdpokcakaaGreatDoor
open Go
set_option maxRecDepth 100000
theorem row11_0 : (Rows.springMoreRow.wf (OpenSpec.ofChange Rows.springMoreSpec)) = true := by kernel_rfl
theorem row11_3 : (Tryz.f11.params.all (Tryz.prog.readableRec ·)) = true := by kernel_rfl
theorem row11_4 : (namedTie Tryz.prog Rows.springMoreRow.named Rows.springMoreSpec.vars) = true := by kernel_rfl
theorem row11_5 : ((Rows.springMoreRow.stops == [])) = true := by kernel_rfl
theorem row11_7 : ((Rows.springMoreRow.knobs == [])) = true := by kernel_rfl
theorem row11_9 : ((Rows.springMoreRow.inPlace == Tryz.prog.inPlace 11)) = true := by kernel_rfl
theorem row11_10 : ((Rows.springMoreRow.unfollowed == Tryz.prog.unfollowed 11)) = true := by kernel_rfl
theorem row11_11 : ((Rows.springMoreRow.recurses == Tryz.prog.recurses 11)) = true := by kernel_rfl
theorem row11_12 : ((Rows.springMoreRow.named == Tryz.prog.varsNamed 11)) = true := by kernel_rfl
theorem row11_13 : ((Rows.springMoreRow.maps == (Tryz.f11.params.toList ++ Rows.springMoreSpec.plain.varTypes Tryz.prog).any (Tryz.prog.mapsRec ·))) = true := by kernel_rfl
theorem row11_14 : ((Rows.springMoreRow.ifaces == (Tryz.f11.params.toList ++ Rows.springMoreSpec.plain.varTypes Tryz.prog).any (Tryz.prog.ifacesRec ·))) = true := by kernel_rfl
theorem row11_15 : ((Rows.springMoreRow.mapsOut == Tryz.prog.mapsAmong Tryz.f11.resultTypes.toList)) = true := by kernel_rfl
theorem row11_16 : ((Rows.springMoreRow.loops == (Tryz.f11.params.toList ++ Rows.springMoreSpec.plain.varTypes Tryz.prog).any (Tryz.prog.loopsFrom ·))) = true := by kernel_rfl
theorem row11_17 : ((Rows.springMoreRow.wideKeys == (Tryz.f11.params.toList ++ Rows.springMoreSpec.plain.varTypes Tryz.prog ++ Tryz.f11.resultTypes.toList).any (Tryz.prog.wideKeysFrom ·))) = true := by kernel_rfl
theorem row11_18 : (Rows.springMoreSpec.vars.all (Tryz.prog.varReadable ·)) = true := by kernel_rfl
theorem row11_19 : (Tryz.f11.resultTypes.all (fun t => Tryz.prog.readableRec t && decide (t < Tryz.prog.types.size))) = true := by kernel_rfl
theorem row11_20 : ((Rows.springMoreRow.ifacesOut == Tryz.f11.resultTypes.toList.any (Tryz.prog.ifacesRec ·))) = true := by kernel_rfl
theorem row11_21 : ((Rows.springMoreRow.loopsOut == Tryz.f11.resultTypes.toList.any (Tryz.prog.loopsFrom ·))) = true := by kernel_rfl
theorem row11_22 : ((Rows.springMoreRow.plainKeys == Tryz.prog.plainKeys)) = true := by kernel_rfl
theorem row11_23 : (Rows.springMoreRow.shortTexts.isNone) = true := by kernel_rfl
theorem row11_26 : ((Rows.springMoreRow.lifted == Tryz.prog.liftsFinal)) = true := (by rw [lifts_final]; kernel_rfl)
theorem row11_27 : ((Tryz.prog.make == some Rows.springMoreRow.make)) = true := (by rw [prog_make]; kernel_rfl)
theorem row11_28 : ((Rows.springMoreRow.kinds == (if Rows.springMoreRow.domain.isEmpty then [] else Tryz.f11.params.toList.map fun t => match Tryz.prog.underlying t with | some (.int k) => some k | _ => none))) = true := by kernel_rfl
theorem row11_29 : ((Rows.springMoreRow.pinned == Rows.springMoreRow.pinnedBy)) = true := by kernel_rfl
theorem row11_30 : ((Rows.springMoreRow.veiled == (Tryz.f11.params.toList ++ Rows.springMoreSpec.plain.varTypes Tryz.prog ++ Tryz.f11.resultTypes.toList).any (Tryz.prog.veiledRec ·))) = true := by kernel_rfl
theorem row11_31 : (Rows.springMoreRow.veiledFits Tryz.prog Tryz.f11.params.toList (Tryz.f11.params.toList ++ Rows.springMoreSpec.plain.varTypes Tryz.prog ++ Tryz.f11.resultTypes.toList)) = true := by kernel_rfl
theorem closed11 : joinedFacts Tryz.prog 11 Tryz.f11 Rows.springMoreSpec Rows.springMoreRow = true := joined_of row11_0 glob1 glob2 row11_3 row11_4 row11_5 glob6 row11_7 glob8 row11_9 row11_10 row11_11 row11_12 row11_13 row11_14 row11_15 row11_16 row11_17 row11_18 row11_19 row11_20 row11_21 row11_22 row11_23 glob24 glob25 row11_26 row11_27 row11_28 row11_29 row11_30 row11_31
end Go.Proofs.YtnpggmdpokcakaaGreatDoor
