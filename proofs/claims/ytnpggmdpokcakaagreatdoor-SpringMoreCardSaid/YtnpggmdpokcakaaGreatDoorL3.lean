/- The arguments of the laws, opened: pairs of numbers. -/
import Derived.Test.YtnpggmdpokcakaaGreatDoorL2
set_option linter.unusedVariables false
set_option linter.unusedSimpArgs false
set_option linter.unnecessarySimpa false
namespace Go.Proofs.YtnpggmdpokcakaaGreatDoor
open Go Go.ChangeShapes Go.WideShapes Go.RowKit Go.Deep
set_option maxRecDepth 100000
variable {H : Type} {enc : TypeId × Value → H} {w : World} {base : Nat} {spare : Nat → Bool} {held : Bool}
theorem okWide_row {r : Reach} {b0 : Nat} {t : TypeId} {n : Nat} {e : TypeId} {v : Value} (ht : Tryz.prog.underlying t = some (.array n e)) (h : Value.okWide Tryz.prog w r b0 t v) : ∃ cs, v = .agg cs ∧ cs.size = Tryz.prog.cellsOf t := by
  simp only [Value.okWide, ht] at h
  obtain ⟨cs, h1, h2, _⟩ := h
  exact ⟨cs, h1, h2⟩
theorem cells77 : Tryz.prog.cellsOf 77 = 2 := by kernel_rfl
theorem open_pair {r : Reach} {b0 : Nat} {v : Value} {d : DataW H} {p : List MemPlace} (hv : Value.okWide Tryz.prog w r b0 77 v) (h : DataW.Trod enc Tryz.prog w base spare held 77 v d p) : ∃ a b : Int, v = .agg #[.int .i64 a, .int .i64 b] := by
  obtain ⟨cs, rfl, hsz⟩ := okWide_row Tryz.underlying77 hv
  obtain ⟨l⟩ := cs
  match l, hsz.trans cells77 with
  | [v0, v1], _ =>
    obtain ⟨fuel, hf⟩ := h
    obtain ⟨xs, n, _, _, _, hlen, hg⟩ := DataW.trod_array Tryz.underlying77 hf
    match xs, hlen with
    | [y0, y1], _ =>
    obtain ⟨a0, rfl⟩ := open_i (n := n) (y := y0) (by simpa [Value.cells, cells3] using hg 0 (by omega))
    obtain ⟨a1, rfl⟩ := open_i (n := n) (y := y1) (by simpa [Value.cells, cells3] using hg 1 (by omega))
    exact ⟨a0, a1, rfl⟩
end Go.Proofs.YtnpggmdpokcakaaGreatDoor
