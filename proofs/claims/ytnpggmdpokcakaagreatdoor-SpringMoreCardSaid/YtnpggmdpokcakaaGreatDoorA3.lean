/- Contracts of package spring: climates, conditions. -/
import Derived.Test.YtnpggmdpokcakaaGreatDoorA2
namespace Go.Proofs.YtnpggmdpokcakaaGreatDoor
open Go.RowKit

def ckC (c : Sp.Cl) : Int := if Sp.okCl c then 0 else 61
theorem ckC_ok {c : Sp.Cl} (h : Sp.okCl c) : ckC c = 0 := if_pos h
theorem ckC_no {c : Sp.Cl} (h : ¬ Sp.okCl c) : ckC c = 61 := if_neg h
set_option maxHeartbeats 4000000 in
theorem CheckClimate_any (c : Sp.Cl) (w : World) :
    Calls Tryz.prog 23 #[vC c] w fun e w' => e = .returned (.int .i64 (ckC c)) ∧ Below w.heap.size w w' := by
  simp only [vC]
  by_cases hf : 0 ≤ c.flo ∧ c.flo ≤ 2000
  · obtain ⟨hf0, hf1⟩ := hf
    have hfi : inB c.flo 0 2000 = true := decide_eq_true ⟨hf0, hf1⟩
    go_enter Tryz.func23, Tryz.ntmps23
    go_wp2_with (go_at_call 88; refine (in_calls _ _ _ _).mono ?_; rintro e w' ⟨rfl, rfl⟩)
    all_goals (go_ret; exact ⟨ret_int (by simp only [inB, decide_eq_true_eq, decide_eq_false_iff_not, Bool.not_eq_true', Bool.not_eq_false'] at *; first | (rw [ckC_ok (by unfold Sp.okCl; omega)]; done) | (rw [ckC_no (by unfold Sp.okCl; omega)]; done)), (by repeat (first | exact Below.refl _ _ | refine balloc ?_ _ | refine bdrewN ?_ _ | refine bdrew ?_ | refine bthen ?_ (by assumption)))⟩)
  · have hfi : inB c.flo 0 2000 = false := decide_eq_false hf
    have HF := Lib.hid hf
    clear hf
    go_enter Tryz.func23, Tryz.ntmps23
    go_wp2_with (go_at_call 88; refine (in_calls _ _ _ _).mono ?_; rintro e w' ⟨rfl, rfl⟩)
    all_goals (go_ret; exact ⟨ret_int (by have hf := HF.out; rw [ckC_no (by unfold Sp.okCl; omega)]), (by repeat (first | exact Below.refl _ _ | refine balloc ?_ _ | refine bdrewN ?_ _ | refine bdrew ?_ | refine bthen ?_ (by assumption)))⟩)
theorem CheckClimate_ok (c : Sp.Cl) (w : World) (h : Sp.okCl c) : Calls Tryz.prog 23 #[vC c] w fun e w' => e = .returned (.int .i64 0) ∧ Below w.heap.size w w' := by
  have := CheckClimate_any c w
  rwa [ckC_ok h] at this
theorem CheckClimate_no (c : Sp.Cl) (w : World) (h : ¬ Sp.okCl c) : Calls Tryz.prog 23 #[vC c] w fun e w' => e = .returned (.int .i64 61) ∧ Below w.heap.size w w' := by
  have := CheckClimate_any c w
  rwa [ckC_no h] at this
theorem temp_calls (a : Int) (w : World) :
    Calls Tryz.prog 97 #[.int .i64 a] w fun e w' => e = .returned (.bool (inB a (-600) 600)) ∧ w = w' := by
  go_enter Tryz.func97, Tryz.ntmps97
  go_wp2_with (go_at_call 88; refine (in_calls _ _ _ _).mono ?_; rintro e w' ⟨rfl, rfl⟩)
  go_ret
  exact ⟨rfl, rfl⟩
theorem height_calls (a : Int) (w : World) :
    Calls Tryz.prog 98 #[.int .i64 a] w fun e w' => e = .returned (.bool (inB a 0 9000)) ∧ w = w' := by
  go_enter Tryz.func98, Tryz.ntmps98
  go_wp2_with (go_at_call 88; refine (in_calls _ _ _ _).mono ?_; rintro e w' ⟨rfl, rfl⟩)
  go_ret
  exact ⟨rfl, rfl⟩
set_option maxHeartbeats 1000000 in
theorem fall_calls (c : Sp.Cl) (x : Sp.W) (h : Int) (w : World) (hc : Sp.okCl c) (ht : -600 ≤ x.temp ∧ x.temp ≤ 600) (hh : 0 ≤ h ∧ h ≤ 9000) :
    Calls Tryz.prog 102 #[vC c, vW x, .int .i64 h] w fun e w' => e = .returned (.tuple #[.int .i64 (Sp.snow c x h), .int .i64 (Sp.wetn c x h)]) ∧ Below w.heap.size w w' := by
  simp only [vC, vW]
  by_cases h0 : Sp.tempAt c x.temp h ≤ 0
  · have e1 : Sp.snow c x h = x.rain := if_pos h0
    have e2 : Sp.wetn c x h = 0 := if_pos h0
    rw [e1, e2]
    clear e1 e2
    go_enter Tryz.func102, Tryz.ntmps102
    go_wp2_with (go_at_call 99; refine (at_calls c _ _ _ hc ht hh).mono ?_; rintro e hbW ⟨rfl, hb⟩; have hbc := (bcell hb).1)
    go_ret2
    exact ⟨rfl, (by repeat (first | exact Below.refl _ _ | refine balloc ?_ _ | refine bdrewN ?_ _ | refine bdrew ?_ | refine bthen ?_ (by assumption)))⟩
  · have e1 : Sp.snow c x h = 0 := if_neg h0
    have e2 : Sp.wetn c x h = x.rain := if_neg h0
    rw [e1, e2]
    clear e1 e2
    go_enter Tryz.func102, Tryz.ntmps102
    go_wp2_with (go_at_call 99; refine (at_calls c _ _ _ hc ht hh).mono ?_; rintro e hbW ⟨rfl, hb⟩; have hbc := (bcell hb).1; have hbz0 : w.heap.size < hbW.heap.size := (by have hz_ := hb.size; simp at hz_; omega); have hbz1 : w.heap.size + 1 < hbW.heap.size := (by have hz_ := hb.size; simp at hz_; omega))
    have hext := Ext.cells hbW
    refine wp_region_ext (by kernel_rfl) (by kernel_rfl) ?_
    repeat (go_big_quiet_step (fail))
    refine wpQuiet_nil ?_
    rintro _ ⟨⟨W1, hb1⟩, rfl⟩
    go_wp2
    go_ret2
    exact ⟨rfl, (by repeat (first | exact Below.refl _ _ | refine balloc ?_ _ | refine bdrewN ?_ _ | refine bdrew ?_ | refine bthen ?_ (by assumption)))⟩
theorem factor_bound {f t : Int} (hf : 0 ≤ f ∧ f ≤ 2000) (ht : -10000 ≤ t ∧ t ≤ 10000) : 0 ≤ f * max 0 t ∧ f * max 0 t ≤ 20000000 :=
  ⟨Int.mul_nonneg hf.1 (by omega), by have h1 := Int.mul_le_mul_of_nonneg_right hf.2 (show 0 ≤ max 0 t by omega); omega⟩
theorem tempAt_bound {c : Sp.Cl} (hc : Sp.okCl c) {t h : Int} (ht : -600 ≤ t ∧ t ≤ 600) (hh : 0 ≤ h ∧ h ≤ 9000) : -10000 ≤ Sp.tempAt c t h ∧ Sp.tempAt c t h ≤ 10000 := by
  have := lapse_bound hc hh
  unfold Sp.tempAt
  omega
set_option maxHeartbeats 1000000 in
theorem melt_calls (c : Sp.Cl) (x : Sp.W) (h f : Int) (w : World) (hc : Sp.okCl c) (ht : -600 ≤ x.temp ∧ x.temp ≤ 600) (hh : 0 ≤ h ∧ h ≤ 9000) (hf : 0 ≤ f ∧ f ≤ 2000) :
    Calls Tryz.prog 104 #[vC c, vW x, .int .i64 h, .int .i64 f] w fun e w' => e = .returned (.int .i64 (Sp.melt c x h f)) ∧ Below w.heap.size w w' := by
  have hb := factor_bound hf (tempAt_bound hc ht hh)
  simp only [vC, vW]
  unfold Sp.melt
  go_enter Tryz.func104, Tryz.ntmps104
  go_wp2_with (first | (go_at_call 99; refine (at_calls c _ _ _ hc ht hh).mono ?_; rintro e hb1W ⟨rfl, hb1⟩; have hb1c := (bcell hb1).1) | (go_at_call 167; refine (down_calls _ _ _ (by omega) (by omega)).mono ?_; rintro e w' ⟨rfl, rfl⟩))
  go_ret
  exact ⟨rfl, (by repeat (first | exact Below.refl _ _ | refine balloc ?_ _ | refine bdrewN ?_ _ | refine bdrew ?_ | refine bthen ?_ (by assumption)))⟩

end Go.Proofs.YtnpggmdpokcakaaGreatDoor
