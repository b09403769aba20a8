/- SpringMore: the row and its tied card.
For every input (whatever memory, whatever order of evaluation) the law SpringMore answers true and leaves its arguments as they were. Conditions: the listed variables of Go's library lie as the program's text lays them (tied by the card). -/
import Derived.Test.YtnpggmdpokcakaaGreatDoorF11
import Derived.Test.YtnpggmdpokcakaaGreatDoorE0
import Derived.Test.YtnpggmdpokcakaaGreatDoorD11
namespace Go.Proofs.YtnpggmdpokcakaaGreatDoor
open Go.ChangeShapes Go.WideShapes Go.RowKit
set_option maxRecDepth 100000
theorem named11 : Tryz.prog.funcNamed "snowline/snowlinelaw06.SpringMore" = some 11 := by kernel_rfl
theorem wrapped11 : Tryz.f11.isWrapper Tryz.prog Rows.springMoreRow.wrapper Rows.springMoreRow.mainSum := by unfold Func.isWrapper; first | (rw [if_pos (by decide +kernel)]; kernel_rfl) | (rw [if_neg (by decide +kernel)]; exact ⟨rfl, rfl⟩)
theorem instance11 : Tryz.f11.isInstance Tryz.prog Rows.springMoreRow.origin Rows.springMoreRow.targs := of_decide_eq_true (by kernel_rfl)
theorem springMore_row : Rows.SpringMoreSaid :=
  OpenClaim.holds_of_wide 11 Tryz.f11 rfl rfl rfl rfl rfl rfl rfl ⟨rfl, rfl, rfl, rfl, rfl⟩ rfl rfl rfl rfl rfl named11 Tryz.func11 closed11 instance11 wrapped11 (fun os started H enc _ => lifted11 sane_in os started H enc)
theorem goes11 : false = Rows.springMoreRow.goesBy Tryz.prog := by kernel_rfl
theorem wf11 : Rows.springMoreRow.wfByText (OpenSpec.ofChange Rows.springMoreSpec) = true := by kernel_rfl
theorem springMore_holds : Rows.SpringMoreCardSaid :=
  Claim7.holds_tied_plain_at .later [] [.data, .data, .data] true (true, "35d444981c2af7b56da1b39a94e96b2be7085ba3a092eaffe21a8eb966b9ba23") false
    springMore_row (fun _ h => by cases h) wf11 (fun _ h => by cases h) springMore_row_tie rfl ⟨rfl, rfl⟩ main_is rfl
    (fun f fn hf hfn => by
      obtain rfl : f = 11 := Option.some.inj (named11.symm.trans hf) |>.symm
      obtain rfl : fn = Tryz.f11 := (Option.some.inj (Tryz.func11.symm.trans hfn)).symm
      exact ⟨looks_no, fun j t ht => by
        rw [Tryz.params11] at ht
        have hm : t ∈ [25, 28, 3, 77, 3] := by simpa using Array.mem_of_getElem? ht
        have hall : ([25, 28, 3, 77, 3].all fun u => !Tryz.prog.wantsStandIn u) = true := by kernel_rfl
        exact (show Tryz.prog.wantsStandIn t = false by simpa using List.all_eq_true.1 hall t hm)⟩)
    goes11
end Go.Proofs.YtnpggmdpokcakaaGreatDoor
