/- springMore: the row, given sane. -/
import Derived.Test.YtnpggmdpokcakaaGreatDoorI11
set_option linter.unusedVariables false
set_option linter.unusedSimpArgs false
set_option linter.unnecessarySimpa false
namespace Go.Proofs.YtnpggmdpokcakaaGreatDoor
open Go.ChangeShapes Go.WideShapes Go.ChangeAt Go.WideMaps Go.WideElems Go.RowKit
set_option maxRecDepth 100000
theorem readable11 : ([25, 28, 3, 77, 77, 3].all fun u => Tryz.prog.readableRec u && decide (u < Tryz.prog.types.size)) = true := by kernel_rfl
theorem lifted11 (hsane : SaneIn tabT) (os : Os) (started : os.Started) (H : Type) (enc : TypeId × Value → H) :
    ReturnsInHanded {} Tryz.checked os 11 .any (fun w args => (Rows.springMoreSpec.pre enc Tryz.prog Tryz.f11 [] false w args ∧ laidMetH Tryz.prog laid3 w) ∧ sizedMet enc Tryz.prog Tryz.f11 (OpenSpec.ofChange Rows.springMoreSpec) false w args)
      (Rows.springMoreSpec.post enc Tryz.prog Tryz.f11 false true false false) := by
  refine returnsInHanded_of_change_and (C := Tryz.checked) (X := fun w _ => laidMetH Tryz.prog laid3 w) (fun _ _ _ hh h => h.of_heap hh) tryOwn started (by kernel_rfl) Tryz.func11
    (ChangeSpec.witness_shaped (enc := enc) (C := Tryz.checked) (os := os) (X := fun w _ => laidMetH Tryz.prog laid3 w) false (World.doorLaid Tryz.prog 4000 os) #[vC ⟨0, 0, 0, 0, 0, 0, 0, 0⟩, .agg #[.int .i64 0, .slice none 0 0], .int .i64 0, .agg #[.int .i64 0, .int .i64 0], .agg #[.int .i64 0, .int .i64 0], .int .i64 0] 8 rfl (World.shaped_of_RefB (by kernel_rfl) (by kernel_rfl)) (by kernel_rfl) (by kernel_rfl) (by kernel_rfl) (door_met3 os _)) ?_
  intro W base args ds gs before hval0 hW _ hwt hL _
  have hval : ∀ (j : Nat) t v, Tryz.f11.params[j]? = some t → args[j]? = some v → Value.okWide Tryz.prog W .any base t v := hval0
  have hW' := hW
  obtain ⟨pA, qA, hA0, hV, rfl, hfz, hnd⟩ := hW
  have hA : DataW.TrodAll enc Tryz.prog W 0 (fun _ => true) true Tryz.f11.params.toList args.toList ds pA := hA0
  obtain ⟨args⟩ := args
  rw [Tryz.params11] at hA hval
  have hA : DataW.TrodAll enc Tryz.prog W 0 (fun _ => true) true [25, 28, 3, 77, 77, 3] args ds pA := hA
  obtain ⟨rfl, rfl⟩ := trodVars_none hV
  obtain ⟨v0, r0, d0, e0, p0, q0, rfl, rfl, rfl, h0, hA⟩ := trodAll_cons hA
  obtain ⟨v1, r1, d1, e1, p1, q1, rfl, rfl, rfl, h1, hA⟩ := trodAll_cons hA
  obtain ⟨v2, r2, d2, e2, p2, q2, rfl, rfl, rfl, h2, hA⟩ := trodAll_cons hA
  obtain ⟨v3, r3, d3, e3, p3, q3, rfl, rfl, rfl, h3, hA⟩ := trodAll_cons hA
  obtain ⟨v4, r4, d4, e4, p4, q4, rfl, rfl, rfl, h4, hA⟩ := trodAll_cons hA
  obtain ⟨v5, r5, d5, e5, p5, q5, rfl, rfl, rfl, h5, hA⟩ := trodAll_cons hA
  obtain ⟨rfl, rfl, rfl⟩ := trodAll_nil hA
  have hwt2 : ∀ b ∈ DataW.weightsEach Tryz.prog [25, 28, 3, 77, 77, 3] [d0, d1, d2, d3, d4, d5], b ≤ reachBytes := by
    have h : (DataW.weightsEach Tryz.prog (Tryz.f11.params.toList ++ []) ([d0, d1, d2, d3, d4, d5] ++ [])).all (· ≤ reachBytes) = true := hwt
    rw [Tryz.params11, List.append_nil, List.append_nil] at h
    intro b hb
    exact of_decide_eq_true (List.all_eq_true.1 h b hb)
  simp only [DataW.weightsEach] at hwt2
  obtain ⟨c0, rfl⟩ := open_climate (hval 0 25 v0 rfl rfl) h0
  obtain ⟨no1, A1, l1, cap1, rfl, hr1⟩ := open_spring (hval 1 28 v1 rfl rfl) h1 (fun b hb => hwt2 b (List.mem_append_right _ (List.mem_append_left _ hb)))
  obtain ⟨n2, rfl⟩ := okWide_int Tryz.underlying3 (hval 2 3 v2 rfl rfl)
  obtain ⟨n3, m3, rfl⟩ := open_pair (hval 3 77 v3 rfl rfl) h3
  obtain ⟨n4, m4, rfl⟩ := open_pair (hval 4 77 v4 rfl rfl) h4
  obtain ⟨n5, rfl⟩ := okWide_int Tryz.underlying3 (hval 5 3 v5 rfl rfl)
  refine (more_calls hsane c0 no1 A1 cap1 l1 n2 n3 m3 n4 m4 n5 W (tabT_of_laid hL) hr1).mono fun e W' ⟨he, hb⟩ => ?_
  subst he
  refine ⟨_, rfl, post_true (tb := 4) tryLaid ?_ rfl hW' rfl Tryz.underlying4 (by kernel_rfl) hb⟩
  rw [Tryz.params11]
  exact readable_of readable11
end Go.Proofs.YtnpggmdpokcakaaGreatDoor
