/- The law SpringCheckSpec. -/
import Derived.Test.YtnpggmdpokcakaaGreatDoorC4
namespace Go.Proofs.YtnpggmdpokcakaaGreatDoor
open Go.RowKit

/-- What sane() answers, in the worlds that T tells. -/
def SaneIn (T : World → Prop) : Prop := (∀ w w' : World, T w → Below w.heap.size w w' → T w') ∧ ∀ w, T w → Calls Tryz.prog 22 #[] w fun e w' => e = .returned (.bool true) ∧ Below w.heap.size w w'
theorem cell_of_below {w w' : World} (hb : Below w.heap.size w w') {b o : Nat} {v : Value} (h : w.cell? ⟨b, o, none⟩ = some v) (hlt : b < w.heap.size) : w'.cell? ⟨b, o, none⟩ = some v := by rw [← h]; exact World.cell?_of_block (hb.block b hlt)
set_option maxHeartbeats 4000000 in
theorem checkSpec_calls {T : World → Prop} (hsane : SaneIn T) (c : Sp.Cl) (A : Option Addr) (cap : Nat) (l : List Sp.W) (no : Int) (A2 : Option Addr) (cap2 : Nat) (l2 : List Sp.W) (w : World) (hT : T w) (hr : Rd lW 3 w A l) (hr2 : Rd lW 3 w A2 l2) :
    Calls Tryz.prog 3 #[vC c, .slice A l.length cap, .agg #[.int .i64 no, .slice A2 l2.length cap2]] w fun e w' => e = .returned (.bool true) ∧ Below w.heap.size w w' := by
  have HS := Lib.hid hsane
  have HT := Lib.hid hT
  have HR := Lib.hid hr
  have HR2 := Lib.hid hr2
  clear hsane hT hr hr2
  simp only [vC]
  go_enter Tryz.func3, Tryz.ntmps3
  go_wp2_with (go_at_call 22; refine (HS.out.2 _ (HS.out.1 _ _ HT.out (by repeat (first | exact Below.refl _ _ | refine balloc ?_ _ | refine bdrewN ?_ _ | refine bdrew ?_ | refine bthen ?_ (by assumption))))).mono ?_; rintro e W0 ⟨rfl, hb0⟩; have hb0c := (bcell hb0).1)
  have hX : W0.heap[w.heap.size]? = some (.cells (cC c) 25 (0, 0)) := box_below (box_alloc _ (box_new _ _)) hb0
  have hY : W0.heap[w.heap.size + 1]? = some (.cells #[.int .i64 no, .slice A2 l2.length cap2] 28 (0, 0)) := box_below (by have h := box_new (w.alloc (.cells (cC c) 25)) (.cells #[.int .i64 no, .slice A2 l2.length cap2] 28); rw [World.size_alloc] at h; exact h) hb0
  have HB : Hid (Below w.heap.size w W0) := Lib.hid (bthen (balloc (balloc (Below.refl _ _) _) _) hb0)
  have HRW := Lib.hid (HR.out.below HB.out)
  have HRW2 := Lib.hid (HR2.out.below HB.out)
  clear hb0c
  clear hb0
  obtain ⟨c0, c1, c2, c3, c4, c5, c6, c7⟩ := boxC hX
  have d0 := box_cell hY 0
  have d1 := box_cell hY 1
  have g0 := box_lt hX
  have g1 := box_lt hY
  simp only [Nat.zero_add, List.getElem?_toArray, List.getElem?_cons_zero, List.getElem?_cons_succ] at d0 d1
  clear hX hY
  have hext := Ext.cells W0
  refine wp_region_ext (by kernel_rfl) (by kernel_rfl) ?_
  repeat (go_big_quiet_step ((first | (go_at_call 23; exact ext_call (CheckClimate_any c _)) | (go_at_call 24; exact ext_call (RClimate_any c _)) | (go_at_call 25; exact ext_call (CheckLog_calls c _ _ l _ (by exact HRW.out.below (Subtype.property _)))) | (go_at_call 26; exact ext_call (RLog_calls c _ _ l _ (by exact HRW.out.below (Subtype.property _)))) | (go_at_call 27; exact ext_call (CheckSpring_calls c _ _ _ l2 _ (by exact HRW2.out.below (Subtype.property _)))) | (go_at_call 28; exact ext_call (RSpring_calls c _ _ _ l2 _ (by exact HRW2.out.below (Subtype.property _)))))))
  refine wpQuiet_nil ?_
  rintro _ ⟨⟨W1, hb1⟩, rfl⟩
  go_wp2
  go_ret
  exact ⟨rfl, bthen HB.out hb1⟩

end Go.Proofs.YtnpggmdpokcakaaGreatDoor
