/- SpringCheckSpec: the row, given sane. -/
import Derived.Test.YtnpggmdpokcakaaGreatDoorD0
import Derived.Test.YtnpggmdpokcakaaGreatDoorL1
import Derived.Test.YtnpggmdpokcakaaGreatDoorC5
namespace Go.Proofs.YtnpggmdpokcakaaGreatDoor
open Go.ChangeShapes Go.WideShapes Go.ChangeAt Go.WideMaps Go.WideElems Go.RowKit
set_option maxRecDepth 100000
theorem lifted3 (hsane : SaneIn tabT) (os : Os) (started : os.Started) (H : Type) (enc : TypeId × Value → H) :
    ReturnsInHanded {} Tryz.checked os 3 .any (fun w args => (Rows.springCheckSpecSpec.pre enc Tryz.prog Tryz.f3 [] false w args ∧ laidMetH Tryz.prog laid3 w) ∧ sizedMet enc Tryz.prog Tryz.f3 (OpenSpec.ofChange Rows.springCheckSpecSpec) false w args)
      (Rows.springCheckSpecSpec.post enc Tryz.prog Tryz.f3 false true false false) := by
  refine returnsInHanded_of_change_and (C := Tryz.checked) (X := fun w _ => laidMetH Tryz.prog laid3 w) (fun _ _ _ hh h => h.of_heap hh) tryOwn started (by kernel_rfl) Tryz.func3
    (ChangeSpec.witness_shaped (enc := enc) (C := Tryz.checked) (os := os) (X := fun w _ => laidMetH Tryz.prog laid3 w) false (World.doorLaid Tryz.prog 4000 os) #[vC ⟨0, 0, 0, 0, 0, 0, 0, 0⟩, .slice none 0 0, .agg #[.int .i64 0, .slice none 0 0]] 8 rfl (World.shaped_of_RefB (by kernel_rfl) (by kernel_rfl)) (by kernel_rfl) (by kernel_rfl) (by kernel_rfl) (door_met3 os _)) ?_
  intro W base args ds gs before hval0 hW _ hwt hL _
  have hval : ∀ (j : Nat) t v, Tryz.f3.params[j]? = some t → args[j]? = some v → Value.okWide Tryz.prog W .any base t v := hval0
  have hW' := hW
  obtain ⟨p, q, hA0, hV, rfl, hfz, hnd⟩ := hW
  have hA : DataW.TrodAll enc Tryz.prog W 0 (fun _ => true) true Tryz.f3.params.toList args.toList ds p := hA0
  rw [Tryz.params3] at hA hval
  obtain ⟨v0, v1, v2, d0, d1, d2, p0, p1, p2, rfl, rfl, rfl, h0, h1, h2⟩ := trodAll_three hA
  obtain ⟨rfl, rfl⟩ := trodVars_none hV
  have hwt2 : ∀ b ∈ DataW.weightsEach Tryz.prog [25, 26, 28] [d0, d1, d2], b ≤ reachBytes := by
    have h : (DataW.weightsEach Tryz.prog (Tryz.f3.params.toList ++ []) ([d0, d1, d2] ++ [])).all (· ≤ reachBytes) = true := hwt
    rw [Tryz.params3, List.append_nil, List.append_nil] at h
    intro b hb
    exact of_decide_eq_true (List.all_eq_true.1 h b hb)
  simp only [DataW.weightsEach] at hwt2
  obtain ⟨c, rfl⟩ := open_climate (hval 0 25 v0 rfl rfl) h0
  obtain ⟨A, l, cap, rfl, hr⟩ := open_logT (okWide_slice Tryz.underlying26 (hval 1 26 v1 rfl rfl)) h1 (fun b hb => hwt2 b (List.mem_append_right _ (List.mem_append_left _ hb)))
  obtain ⟨no, A2, l2, cap2, rfl, hr2⟩ := open_spring (hval 2 28 v2 rfl rfl) h2 (fun b hb => hwt2 b (List.mem_append_right _ (List.mem_append_right _ (List.mem_append_left _ hb))))
  refine (checkSpec_calls hsane c A cap l no A2 cap2 l2 W (tabT_of_laid hL) hr hr2).mono fun e W' ⟨he, hb⟩ => ?_
  subst he
  refine ⟨_, rfl, post_true (tb := 4) tryLaid ?_ rfl hW' rfl Tryz.underlying4 (by kernel_rfl) hb⟩
  rw [Tryz.params3]
  intro t ht
  have hall : ([25, 26, 28].all fun u => Tryz.prog.readableRec u && decide (u < Tryz.prog.types.size)) = true := by kernel_rfl
  have := List.all_eq_true.1 hall t ht
  rw [Bool.and_eq_true] at this
  exact ⟨this.1, of_decide_eq_true this.2⟩
end Go.Proofs.YtnpggmdpokcakaaGreatDoor
