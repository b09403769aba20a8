/- SpringCheckSpec: the row and its tied card.
For every input (whatever memory, whatever order of evaluation) the law SpringCheckSpec answers true and leaves its arguments as they were. Conditions: the listed variables of Go's library lie as the program's text lays them (tied by the card). -/
import Derived.Test.YtnpggmdpokcakaaGreatDoorF3
import Derived.Test.YtnpggmdpokcakaaGreatDoorE0
import Derived.Test.YtnpggmdpokcakaaGreatDoorD1
set_option linter.unusedVariables false
set_option linter.unusedSimpArgs false
set_option linter.unnecessarySimpa false
namespace Go.Proofs.YtnpggmdpokcakaaGreatDoor
open Go.ChangeShapes Go.WideShapes Go.RowKit
set_option maxRecDepth 100000
theorem named3 : Tryz.prog.funcNamed "snowline/snowlinelaw06.SpringCheckSpec" = some 3 := by kernel_rfl
theorem wrapped3 : Tryz.f3.isWrapper Tryz.prog Rows.springCheckSpecRow.wrapper Rows.springCheckSpecRow.mainSum := by unfold Func.isWrapper; first | (rw [if_pos (by decide +kernel)]; kernel_rfl) | (rw [if_neg (by decide +kernel)]; exact ⟨rfl, rfl⟩)
theorem instance3 : Tryz.f3.isInstance Tryz.prog Rows.springCheckSpecRow.origin Rows.springCheckSpecRow.targs := of_decide_eq_true (by kernel_rfl)
theorem springCheckSpec_row : Rows.SpringCheckSpecSaid :=
  OpenClaim.holds_of_wide 3 Tryz.f3 rfl rfl rfl rfl rfl rfl rfl ⟨rfl, rfl, rfl, rfl, rfl⟩ rfl rfl rfl rfl rfl named3 Tryz.func3 closed3 instance3 wrapped3 (fun os started H enc _ => lifted3 sane_in os started H enc)
theorem goes3 : false = Rows.springCheckSpecRow.goesBy Tryz.prog := by kernel_rfl
theorem wf3 : Rows.springCheckSpecRow.wfByText (OpenSpec.ofChange Rows.springCheckSpecSpec) = true := by kernel_rfl
theorem springCheckSpec_holds : Rows.SpringCheckSpecCardSaid :=
  Claim7.holds_tied_plain_at .later [] [.data, .data, .data] true (true, "35d444981c2af7b56da1b39a94e96b2be7085ba3a092eaffe21a8eb966b9ba23") false
    springCheckSpec_row (fun _ h => by cases h) wf3 (fun _ h => by cases h) springCheckSpec_row_tie rfl ⟨rfl, rfl⟩ main_is rfl
    (fun f fn hf hfn => by
      obtain rfl : f = 3 := Option.some.inj (named3.symm.trans hf) |>.symm
      obtain rfl : fn = Tryz.f3 := (Option.some.inj (Tryz.func3.symm.trans hfn)).symm
      exact ⟨looks_no, fun j t ht => by
        rw [Tryz.params3] at ht
        have hm : t ∈ [25, 26, 28] := by simpa using Array.mem_of_getElem? ht
        have hall : ([25, 26, 28].all fun u => !Tryz.prog.wantsStandIn u) = true := by kernel_rfl
        exact (show Tryz.prog.wantsStandIn t = false by simpa using List.all_eq_true.1 hall t hm)⟩)
    goes3
end Go.Proofs.YtnpggmdpokcakaaGreatDoor
