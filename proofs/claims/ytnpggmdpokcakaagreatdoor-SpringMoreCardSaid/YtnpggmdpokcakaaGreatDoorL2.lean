/- The arguments of the laws, opened: weathers, numbers; calls from the world of the call on. -/
import Derived.Test.YtnpggmdpokcakaaGreatDoorL1
import Derived.Test.YtnpggmdpokcakaaGreatDoorD0
import Derived.Test.YtnpggmdpokcakaaGreatDoorN0
set_option linter.unusedVariables false
set_option linter.unusedSimpArgs false
set_option linter.unnecessarySimpa false
namespace Go.Proofs.YtnpggmdpokcakaaGreatDoor
open Go Go.ChangeShapes Go.WideShapes Go.RowKit Go.Deep
set_option maxRecDepth 100000
variable {H : Type} {enc : TypeId × Value → H} {w : World} {base : Nat} {spare : Nat → Bool} {held : Bool}
theorem open_weather {r : Reach} {b0 : Nat} {v : Value} {d : DataW H} {p : List MemPlace} (hv : Value.okWide Tryz.prog w r b0 36 v) (h : DataW.Trod enc Tryz.prog w base spare held 36 v d p) : ∃ x : Sp.W, v = vW x := by
  obtain ⟨cs, rfl, hsz⟩ := okWide_struct Tryz.underlying36 hv
  obtain ⟨l⟩ := cs
  match l, hsz.trans cells36 with
  | [v0, v1, v2], _ =>
    obtain ⟨fuel, hf⟩ := h
    obtain ⟨xs, n, _, _, _, hlen, hg⟩ := DataW.trod_struct Tryz.underlying36 hf
    match xs, hlen with
    | [y0, y1, y2], _ =>
      obtain ⟨a0, rfl⟩ := open_i (n := n) (by simpa [Value.cells, cells3] using hg 0 _ rfl)
      obtain ⟨a1, rfl⟩ := open_i (n := n) (by simpa [Value.cells, cells3] using hg 1 _ rfl)
      obtain ⟨a2, rfl⟩ := open_i (n := n) (by simpa [Value.cells, cells3] using hg 2 _ rfl)
      exact ⟨⟨a0, a1, a2⟩, rfl⟩
/-- The table lies there as long as what lay at the call lies there. -/
theorem tabT_kept {W w' : World} (h : tabT W) (hk : AM.Kept W w') : tabT w' := by
  have h0 := hk 0 h.2
  refine ⟨?_, ?_⟩
  · have h1 := h.1
    unfold Lib.TabIs World.var? at h1 ⊢
    rw [pow10_global] at h1 ⊢
    simpa only [Option.bind_some, h0] using h1
  · rw [Array.getElem?_eq_getElem h.2] at h0
    exact (Array.getElem?_eq_some_iff.1 h0).1
theorem readable_of {l : List TypeId} (h : (l.all fun u => Tryz.prog.readableRec u && decide (u < Tryz.prog.types.size)) = true) : ∀ t ∈ l, Tryz.prog.readableRec t = true ∧ t < Tryz.prog.types.size := by
  intro t ht
  have := List.all_eq_true.1 h t ht
  rw [Bool.and_eq_true] at this
  exact ⟨this.1, of_decide_eq_true this.2⟩
end Go.Proofs.YtnpggmdpokcakaaGreatDoor
