/- SpringHeights: the row and its tied card.
For every input (whatever memory, whatever order of evaluation) the law SpringHeights answers true and leaves its arguments as they were. Conditions: the listed variables of Go's library lie as the program's text lays them (tied by the card). -/
import Derived.Test.YtnpggmdpokcakaaGreatDoorF13
import Derived.Test.YtnpggmdpokcakaaGreatDoorE0
import Derived.Test.YtnpggmdpokcakaaGreatDoorD13
namespace Go.Proofs.YtnpggmdpokcakaaGreatDoor
open Go.ChangeShapes Go.WideShapes Go.RowKit
set_option maxRecDepth 100000
theorem named13 : Tryz.prog.funcNamed "snowline/snowlinelaw06.SpringHeights" = some 13 := by kernel_rfl
theorem wrapped13 : Tryz.f13.isWrapper Tryz.prog Rows.springHeightsRow.wrapper Rows.springHeightsRow.mainSum := by unfold Func.isWrapper; first | (rw [if_pos (by decide +kernel)]; kernel_rfl) | (rw [if_neg (by decide +kernel)]; exact ⟨rfl, rfl⟩)
theorem instance13 : Tryz.f13.isInstance Tryz.prog Rows.springHeightsRow.origin Rows.springHeightsRow.targs := of_decide_eq_true (by kernel_rfl)
theorem springHeights_row : Rows.SpringHeightsSaid :=
  OpenClaim.holds_of_wide 13 Tryz.f13 rfl rfl rfl rfl rfl rfl rfl ⟨rfl, rfl, rfl, rfl, rfl⟩ rfl rfl rfl rfl rfl named13 Tryz.func13 closed13 instance13 wrapped13 (fun os started H enc _ => lifted13 sane_in os started H enc)
theorem goes13 : false = Rows.springHeightsRow.goesBy Tryz.prog := by kernel_rfl
theorem wf13 : Rows.springHeightsRow.wfByText (OpenSpec.ofChange Rows.springHeightsSpec) = true := by kernel_rfl
theorem springHeights_holds : Rows.SpringHeightsCardSaid :=
  Claim7.holds_tied_plain_at .later [] [.data, .data, .data] true (true, "35d444981c2af7b56da1b39a94e96b2be7085ba3a092eaffe21a8eb966b9ba23") false
    springHeights_row (fun _ h => by cases h) wf13 (fun _ h => by cases h) springHeights_row_tie rfl ⟨rfl, rfl⟩ main_is rfl
    (fun f fn hf hfn => by
      obtain rfl : f = 13 := Option.some.inj (named13.symm.trans hf) |>.symm
      obtain rfl : fn = Tryz.f13 := (Option.some.inj (Tryz.func13.symm.trans hfn)).symm
      exact ⟨looks_no, fun j t ht => by
        rw [Tryz.params13] at ht
        have hm : t ∈ [25, 36, 3] := by simpa using Array.mem_of_getElem? ht
        have hall : ([25, 36, 3].all fun u => !Tryz.prog.wantsStandIn u) = true := by kernel_rfl
        exact (show Tryz.prog.wantsStandIn t = false by simpa using List.all_eq_true.1 hall t hm)⟩)
    goes13
end Go.Proofs.YtnpggmdpokcakaaGreatDoor
