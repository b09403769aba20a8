/- What all cards of this seat share: sane() answers true; the program's main, its looks. -/
import Derived.Test.YtnpggmdpokcakaaGreatDoorF0
import Derived.Test.YtnpggmdpokcakaaGreatDoorCards
import Derived.Test.YtnpggmdpokcakaaGreatDoorTie
import Derived.Test.YtnpggmdpokcakaaGreatDoorM6
import Derived.Test.YtnpggmdpokcakaaGreatDoorD0
import Derived.Test.YtnpggmdpokcakaaGreatDoorC5
import Derived.SevenTiedAt
namespace Go.Proofs.YtnpggmdpokcakaaGreatDoor
open Go Go.ChangeShapes Go.WideShapes Go.RowKit
set_option maxRecDepth 100000
theorem sane_in : SaneIn tabT := ⟨fun _ _ h hb => tabT_below h hb, fun w h => sane_calls w h (fun b hb => by have hb : b = 0 := hb; subst hb; exact h.2)⟩
theorem main_of : ∀ P : Program, P.initOrder.toList = ioCh → P.mainIs = some (true, "35d444981c2af7b56da1b39a94e96b2be7085ba3a092eaffe21a8eb966b9ba23".toList) := by
  intro P h
  unfold Program.mainIs
  rw [h]
  kernel_rfl
theorem main_is : Tryz.prog.mainIs = some (true, "35d444981c2af7b56da1b39a94e96b2be7085ba3a092eaffe21a8eb966b9ba23".toList) := main_of _ io_list
theorem looks_no : false = Tryz.prog.looks [] := by kernel_rfl
end Go.Proofs.YtnpggmdpokcakaaGreatDoor
