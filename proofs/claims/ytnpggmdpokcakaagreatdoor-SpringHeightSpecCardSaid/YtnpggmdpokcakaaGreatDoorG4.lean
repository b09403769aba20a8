/- SpringHeightSpec: the row and its tied card.
For every input (whatever memory, whatever order of evaluation) the law SpringHeightSpec answers true and leaves its arguments as they were. Conditions: the listed variables of Go's library lie as the program's text lays them (tied by the card). -/
import Derived.Test.YtnpggmdpokcakaaGreatDoorF4
import Derived.Test.YtnpggmdpokcakaaGreatDoorE0
import Derived.Test.YtnpggmdpokcakaaGreatDoorD4
namespace Go.Proofs.YtnpggmdpokcakaaGreatDoor
open Go.ChangeShapes Go.WideShapes Go.RowKit
set_option maxRecDepth 100000
theorem named4 : Tryz.prog.funcNamed "snowline/snowlinelaw06.SpringHeightSpec" = some 4 := by kernel_rfl
theorem wrapped4 : Tryz.f4.isWrapper Tryz.prog Rows.springHeightSpecRow.wrapper Rows.springHeightSpecRow.mainSum := by unfold Func.isWrapper; first | (rw [if_pos (by decide +kernel)]; kernel_rfl) | (rw [if_neg (by decide +kernel)]; exact ⟨rfl, rfl⟩)
theorem instance4 : Tryz.f4.isInstance Tryz.prog Rows.springHeightSpecRow.origin Rows.springHeightSpecRow.targs := of_decide_eq_true (by kernel_rfl)
theorem springHeightSpec_row : Rows.SpringHeightSpecSaid :=
  OpenClaim.holds_of_wide 4 Tryz.f4 rfl rfl rfl rfl rfl rfl rfl ⟨rfl, rfl, rfl, rfl, rfl⟩ rfl rfl rfl rfl rfl named4 Tryz.func4 closed4 instance4 wrapped4 (fun os started H enc _ => lifted4 sane_in os started H enc)
theorem goes4 : false = Rows.springHeightSpecRow.goesBy Tryz.prog := by kernel_rfl
theorem wf4 : Rows.springHeightSpecRow.wfByText (OpenSpec.ofChange Rows.springHeightSpecSpec) = true := by kernel_rfl
theorem springHeightSpec_holds : Rows.SpringHeightSpecCardSaid :=
  Claim7.holds_tied_plain_at .later [] [.data, .data, .data] true (true, "35d444981c2af7b56da1b39a94e96b2be7085ba3a092eaffe21a8eb966b9ba23") false
    springHeightSpec_row (fun _ h => by cases h) wf4 (fun _ h => by cases h) springHeightSpec_row_tie rfl ⟨rfl, rfl⟩ main_is rfl
    (fun f fn hf hfn => by
      obtain rfl : f = 4 := Option.some.inj (named4.symm.trans hf) |>.symm
      obtain rfl : fn = Tryz.f4 := (Option.some.inj (Tryz.func4.symm.trans hfn)).symm
      exact ⟨looks_no, fun j t ht => by
        rw [Tryz.params4] at ht
        have hm : t ∈ [25, 36, 3] := by simpa using Array.mem_of_getElem? ht
        have hall : ([25, 36, 3].all fun u => !Tryz.prog.wantsStandIn u) = true := by kernel_rfl
        exact (show Tryz.prog.wantsStandIn t = false by simpa using List.all_eq_true.1 hall t hm)⟩)
    goes4
end Go.Proofs.YtnpggmdpokcakaaGreatDoor
