/- The closed facts of the row of function 3. -/
import Derived.Test.YtnpggmdpokcakaaGreatDoorF0
namespace Go.Proofs.YtnpggmdpokcakaaGreatDoor
open Go
set_option maxRecDepth 100000
theorem row3_0 : (Rows.springCheckSpecRow.wf (OpenSpec.ofChange Rows.springCheckSpecSpec)) = true := by kernel_rfl
theorem row3_3 : (Tryz.f3.params.all (Tryz.prog.readableRec ·)) = true := by kernel_rfl
theorem row3_4 : (namedTie Tryz.prog Rows.springCheckSpecRow.named Rows.springCheckSpecSpec.vars) = true := by kernel_rfl
theorem row3_5 : ((Rows.springCheckSpecRow.stops == [])) = true := by kernel_rfl
theorem row3_7 : ((Rows.springCheckSpecRow.knobs == [])) = true := by kernel_rfl
theorem row3_9 : ((Rows.springCheckSpecRow.inPlace == Tryz.prog.inPlace 3)) = true := by kernel_rfl
theorem row3_10 : ((Rows.springCheckSpecRow.unfollowed == Tryz.prog.unfollowed 3)) = true := by kernel_rfl
theorem row3_11 : ((Rows.springCheckSpecRow.recurses == Tryz.prog.recurses 3)) = true := by kernel_rfl
theorem row3_12 : ((Rows.springCheckSpecRow.named == Tryz.prog.varsNamed 3)) = true := by kernel_rfl
theorem row3_13 : ((Rows.springCheckSpecRow.maps == (Tryz.f3.params.toList ++ Rows.springCheckSpecSpec.plain.varTypes Tryz.prog).any (Tryz.prog.mapsRec ·))) = true := by kernel_rfl
theorem row3_14 : ((Rows.springCheckSpecRow.ifaces == (Tryz.f3.params.toList ++ Rows.springCheckSpecSpec.plain.varTypes Tryz.prog).any (Tryz.prog.ifacesRec ·))) = true := by kernel_rfl
theorem row3_15 : ((Rows.springCheckSpecRow.mapsOut == Tryz.prog.mapsAmong Tryz.f3.resultTypes.toList)) = true := by kernel_rfl
theorem row3_16 : ((Rows.springCheckSpecRow.loops == (Tryz.f3.params.toList ++ Rows.springCheckSpecSpec.plain.varTypes Tryz.prog).any (Tryz.prog.loopsFrom ·))) = true := by kernel_rfl
theorem row3_17 : ((Rows.springCheckSpecRow.wideKeys == (Tryz.f3.params.toList ++ Rows.springCheckSpecSpec.plain.varTypes Tryz.prog ++ Tryz.f3.resultTypes.toList).any (Tryz.prog.wideKeysFrom ·))) = true := by kernel_rfl
theorem row3_18 : (Rows.springCheckSpecSpec.vars.all (Tryz.prog.varReadable ·)) = true := by kernel_rfl
theorem row3_19 : (Tryz.f3.resultTypes.all (fun t => Tryz.prog.readableRec t && decide (t < Tryz.prog.types.size))) = true := by kernel_rfl
theorem row3_20 : ((Rows.springCheckSpecRow.ifacesOut == Tryz.f3.resultTypes.toList.any (Tryz.prog.ifacesRec ·))) = true := by kernel_rfl
theorem row3_21 : ((Rows.springCheckSpecRow.loopsOut == Tryz.f3.resultTypes.toList.any (Tryz.prog.loopsFrom ·))) = true := by kernel_rfl
theorem row3_22 : ((Rows.springCheckSpecRow.plainKeys == Tryz.prog.plainKeys)) = true := by kernel_rfl
theorem row3_23 : (Rows.springCheckSpecRow.shortTexts.isNone) = true := by kernel_rfl
theorem row3_26 : ((Rows.springCheckSpecRow.lifted == Tryz.prog.liftsFinal)) = true := (by rw [lifts_final]; kernel_rfl)
theorem row3_27 : ((Tryz.prog.make == some Rows.springCheckSpecRow.make)) = true := (by rw [prog_make]; kernel_rfl)
theorem row3_28 : ((Rows.springCheckSpecRow.kinds == (if Rows.springCheckSpecRow.domain.isEmpty then [] else Tryz.f3.params.toList.map fun t => match Tryz.prog.underlying t with | some (.int k) => some k | _ => none))) = true := by kernel_rfl
theorem row3_29 : ((Rows.springCheckSpecRow.pinned == Rows.springCheckSpecRow.pinnedBy)) = true := by kernel_rfl
theorem row3_30 : ((Rows.springCheckSpecRow.veiled == (Tryz.f3.params.toList ++ Rows.springCheckSpecSpec.plain.varTypes Tryz.prog ++ Tryz.f3.resultTypes.toList).any (Tryz.prog.veiledRec ·))) = true := by kernel_rfl
theorem row3_31 : (Rows.springCheckSpecRow.veiledFits Tryz.prog Tryz.f3.params.toList (Tryz.f3.params.toList ++ Rows.springCheckSpecSpec.plain.varTypes Tryz.prog ++ Tryz.f3.resultTypes.toList)) = true := by kernel_rfl
theorem closed3 : joinedFacts Tryz.prog 3 Tryz.f3 Rows.springCheckSpecSpec Rows.springCheckSpecRow = true := joined_of row3_0 glob1 glob2 row3_3 row3_4 row3_5 glob6 row3_7 glob8 row3_9 row3_10 row3_11 row3_12 row3_13 row3_14 row3_15 row3_16 row3_17 row3_18 row3_19 row3_20 row3_21 row3_22 row3_23 glob24 glob25 row3_26 row3_27 row3_28 row3_29 row3_30 row3_31
end Go.Proofs.YtnpggmdpokcakaaGreatDoor
