/- Contracts of the reference: within, CheckClimate, valid, apart, near. -/
import Derived.Test.YtnpggmdpokcakaaGreatDoorA8
namespace Go.Proofs.YtnpggmdpokcakaaGreatDoor
open Go.RowKit

theorem within_calls (a b c : Int) (w : World) :
    Calls Tryz.prog 89 #[.int .i64 a, .int .i64 b, .int .i64 c] w fun e w' => e = .returned (.bool (inB a b c)) ∧ w = w' := by
  by_cases h1 : a ≥ b
  · go_enter Tryz.func89, Tryz.ntmps89
    go_wp2
    go_ret
    exact ⟨ret_bool (by simp [inB]; omega), rfl⟩
  · go_enter Tryz.func89, Tryz.ntmps89
    go_wp2
    go_ret
    exact ⟨ret_bool (by simp [inB]; omega), rfl⟩
theorem apart_calls (a b : Int) (w : World) (h : -9000000000000000000 ≤ a - b ∧ a - b ≤ 9000000000000000000) :
    Calls Tryz.prog 165 #[.int .i64 a, .int .i64 b] w fun e w' => e = .returned (.int .i64 (Sp.ab (a - b))) ∧ w = w' := by
  go_enter Tryz.func165, Tryz.ntmps165
  go_wp2
  all_goals (go_ret; exact ⟨ret_int (by unfold Sp.ab; omega), rfl⟩)
theorem valid_calls (c : Sp.Cl) (x : Sp.W) (w : World) :
    Calls Tryz.prog 91 #[vC c, vW x] w fun e w' => e = .returned (.bool (okWB c x)) ∧ Below w.heap.size w w' := by
  simp only [vC, vW]
  go_enter Tryz.func91, Tryz.ntmps91
  go_wp2_with (go_at_call 89; refine (within_calls _ _ _ _).mono ?_; rintro e w' ⟨rfl, rfl⟩)
  all_goals (go_ret; exact ⟨ret_bool (by rw [Bool.eq_iff_iff]; simp only [okWB, inB, decide_eq_true_eq, Bool.false_eq_true] at *; simp only [Sp.okW, false_iff]; omega), (by repeat (first | exact Below.refl _ _ | refine balloc ?_ _ | refine bdrewN ?_ _ | refine bdrew ?_ | refine bthen ?_ (by assumption)))⟩)
theorem nearR_calls (c : Sp.Cl) (v x : Sp.W) (w : World) (hs : 0 ≤ c.swing ∧ c.swing ≤ 600) (hv : -600 ≤ v.temp ∧ v.temp ≤ 600) (hx : -600 ≤ x.temp ∧ x.temp ≤ 600) (hv' : 0 ≤ v.day ∧ v.day ≤ 1048576) (hx' : 0 ≤ x.day ∧ x.day ≤ 1048576) :
    Calls Tryz.prog 92 #[vC c, vW v, vW x] w fun e w' => e = .returned (.bool (nearB c v x)) ∧ Below w.heap.size w w' := by
  have hm := swing_bound hs (ab_bound hv' hx')
  simp only [vC, vW]
  go_enter Tryz.func92, Tryz.ntmps92
  go_wp2_with fail
  go_quiet ((go_at_call 165; exact quiet_same (apart_calls _ _ _ (by omega))))
  go_wp2
  go_ret
  exact ⟨ret_bool rfl, (by repeat (first | exact Below.refl _ _ | refine balloc ?_ _ | refine bdrewN ?_ _ | refine bdrew ?_ | refine bthen ?_ (by assumption)))⟩
set_option maxHeartbeats 4000000 in
theorem RClimate_any (c : Sp.Cl) (w : World) :
    Calls Tryz.prog 24 #[vC c] w fun e w' => e = .returned (.int .i64 (ckC c)) ∧ Below w.heap.size w w' := by
  simp only [vC]
  by_cases hf : 0 ≤ c.flo ∧ c.flo ≤ 2000 ∧ 0 ≤ c.fhi ∧ c.fhi ≤ 2000
  · obtain ⟨hf0, hf1, hf2, hf3⟩ := hf
    go_enter Tryz.func24, Tryz.ntmps24
    go_wp2_with (go_at_call 89; refine (within_calls _ _ _ _).mono ?_; rintro e w' ⟨rfl, rfl⟩)
    all_goals (go_ret; exact ⟨ret_int (by simp only [inB, decide_eq_true_eq, decide_eq_false_iff_not, Bool.not_eq_true', Bool.not_eq_false'] at *; first | (rw [ckC_ok (by unfold Sp.okCl; omega)]; done) | (rw [ckC_no (by unfold Sp.okCl; omega)]; done)), (by repeat (first | exact Below.refl _ _ | refine balloc ?_ _ | refine bdrewN ?_ _ | refine bdrew ?_ | refine bthen ?_ (by assumption)))⟩)
  · have hno : ¬ Sp.okCl c := fun h => hf (by unfold Sp.okCl at h; omega)
    by_cases h1 : c.flo < 0
    · go_enter Tryz.func24, Tryz.ntmps24
      go_wp2_with (go_at_call 89; refine (within_calls _ _ _ _).mono ?_; rintro e w' ⟨rfl, rfl⟩)
      all_goals (go_ret; exact ⟨ret_int (by rw [ckC_no hno]), (by repeat (first | exact Below.refl _ _ | refine balloc ?_ _ | refine bdrewN ?_ _ | refine bdrew ?_ | refine bthen ?_ (by assumption)))⟩)
    · by_cases h2 : c.flo > c.fhi
      · go_enter Tryz.func24, Tryz.ntmps24
        go_wp2_with (go_at_call 89; refine (within_calls _ _ _ _).mono ?_; rintro e w' ⟨rfl, rfl⟩)
        all_goals (go_ret; exact ⟨ret_int (by rw [ckC_no hno]), (by repeat (first | exact Below.refl _ _ | refine balloc ?_ _ | refine bdrewN ?_ _ | refine bdrew ?_ | refine bthen ?_ (by assumption)))⟩)
      · have h3 : c.fhi > 2000 := by omega
        go_enter Tryz.func24, Tryz.ntmps24
        go_wp2_with (go_at_call 89; refine (within_calls _ _ _ _).mono ?_; rintro e w' ⟨rfl, rfl⟩)
        all_goals (go_ret; exact ⟨ret_int (by rw [ckC_no hno]), (by repeat (first | exact Below.refl _ _ | refine balloc ?_ _ | refine bdrewN ?_ _ | refine bdrew ?_ | refine bthen ?_ (by assumption)))⟩)
theorem RClimate_ok (c : Sp.Cl) (w : World) (h : Sp.okCl c) : Calls Tryz.prog 24 #[vC c] w fun e w' => e = .returned (.int .i64 0) ∧ Below w.heap.size w w' := by
  have := RClimate_any c w
  rwa [ckC_ok h] at this
theorem RClimate_no (c : Sp.Cl) (w : World) (h : ¬ Sp.okCl c) : Calls Tryz.prog 24 #[vC c] w fun e w' => e = .returned (.int .i64 61) ∧ Below w.heap.size w w' := by
  have := RClimate_any c w
  rwa [ckC_no h] at this

end Go.Proofs.YtnpggmdpokcakaaGreatDoor
