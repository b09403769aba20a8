/- What the rows have in common: the table that lies there, the world of the witness. -/
import Derived.Test.YtnpggmdpokcakaaGreatDoorRows
import Derived.Below
import Derived.ProofKit
import Derived.LaidMore
import Derived.OpenShut
import Derived.Stop.Joined
import Derived.Lib.LaidU8
import Derived.Lib.ItoaNum
set_option linter.unusedVariables false
set_option linter.unusedSimpArgs false
set_option linter.unnecessarySimpa false
namespace Go.Proofs.YtnpggmdpokcakaaGreatDoor
open Go.ChangeShapes Go.WideShapes Go.ChangeAt Go.WideMaps Go.WideElems Go.RowKit
set_option maxRecDepth 100000
theorem tryOwn : ownKnob Tryz.prog.godebug = none := by kernel_rfl
theorem tryLaid : laidOutB Tryz.prog = true := by kernel_rfl
def laid3 : List (String × DataW Unit) := [("math/bits.deBruijn32tab", Rows.laid_math_bits_deBruijn32tab), ("math/bits.deBruijn64tab", Rows.laid_math_bits_deBruijn64tab), ("internal/strconv.uint64pow10", Rows.laid_internal_strconv_uint64pow10)]
def tabT (w : World) : Prop := Lib.TabIs Tryz.prog w "internal/strconv.uint64pow10" .u64 Lib.pow10Tab ∧ 0 < w.heap.size
theorem pow10_global : Tryz.prog.globalNamed "internal/strconv.uint64pow10" = some 0 := by kernel_rfl
theorem tabT_below {w w' : World} (h : tabT w) (hb : Below w.heap.size w w') : tabT w' := by
  refine ⟨?_, Nat.lt_of_lt_of_le h.2 hb.size⟩
  have h1 := h.1
  unfold Lib.TabIs World.var? at h1 ⊢
  rw [pow10_global] at h1 ⊢
  simpa only [Option.bind_some, hb.block 0 h.2] using h1
theorem tabT_of_laid {W : World} (h : laidMetH Tryz.prog laid3 W) : tabT W := by
  rw [MakeChecks.laidMetH_plain _ _ _ (by kernel_rfl)] at h
  obtain ⟨g, t, cs, fuel, p, hg, ht, hv, hd⟩ := Lib.laidMet.reads h (.tail _ (.tail _ (.head _)))
  obtain rfl := Option.some.inj (pow10_global.symm.trans hg)
  obtain rfl := Option.some.inj ((show (Tryz.prog.globals[0]?).map (·.type) = some 288 by kernel_rfl).symm.trans ht)
  have hTab : cs.toList = Lib.pow10Tab.map fun z => Value.int .u64 z :=
    Lib.cells_of_tab (show Tryz.prog.underlying 288 = some (.array 20 229) by kernel_rfl) (show Tryz.prog.underlying 229 = some (.int .u64) by kernel_rfl) (by kernel_rfl) (by kernel_rfl) (show _ = some (Lib.tabData .u64 Lib.pow10Tab, p) from hd)
  refine ⟨?_, ?_⟩
  · unfold Lib.TabIs
    rw [hv, ← hTab]
  · unfold World.var? at hv
    rw [pow10_global] at hv
    simp only [Option.bind_some] at hv
    split at hv
    · rename_i hq
      exact (Array.getElem?_eq_some_iff.1 hq).1
    · cases hv
theorem door_met3 (os : Os) (args : Array Value) : laidMetH Tryz.prog laid3 ((World.doorLaid Tryz.prog 4000 os).forCall (fun _ _ => 0) ⟨#[], args, []⟩).memory :=
  laidMetH_of_parts3 (fuel := 8) (laidMet_of_run' 8 (by kernel_rfl) (by kernel_rfl)) (by kernel_rfl) (by kernel_rfl)
end Go.Proofs.YtnpggmdpokcakaaGreatDoor
