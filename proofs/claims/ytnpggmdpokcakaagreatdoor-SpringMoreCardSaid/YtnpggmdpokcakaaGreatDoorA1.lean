/- Contracts of the small functions of package spring. -/
import Derived.Test.YtnpggmdpokcakaaGreatDoorA0
namespace Go.Proofs.YtnpggmdpokcakaaGreatDoor
open Go.RowKit

def inB (a b c : Int) : Bool := decide (b ≤ a ∧ a ≤ c)
theorem in_calls (a b c : Int) (w : World) :
    Calls Tryz.prog 88 #[.int .i64 a, .int .i64 b, .int .i64 c] w fun e w' => e = .returned (.bool (inB a b c)) ∧ w = w' := by
  by_cases h1 : a ≥ b
  · go_enter Tryz.func88, Tryz.ntmps88
    go_wp2
    go_ret
    exact ⟨ret_bool (by simp [inB]; omega), rfl⟩
  · go_enter Tryz.func88, Tryz.ntmps88
    go_wp2
    go_ret
    exact ⟨ret_bool (by simp [inB]; omega), rfl⟩
theorem size_calls (a : Int) (w : World) (h : -9000000000000000000 ≤ a ∧ a ≤ 9000000000000000000) :
    Calls Tryz.prog 169 #[.int .i64 a] w fun e w' => e = .returned (.int .i64 (Sp.ab a)) ∧ w = w' := by
  go_enter Tryz.func169, Tryz.ntmps169
  go_wp2
  all_goals (go_ret; exact ⟨ret_int (by unfold Sp.ab; omega), rfl⟩)
theorem day_calls (a : Int) (w : World) :
    Calls Tryz.prog 107 #[.int .i64 a] w fun e w' => e = .returned (.bool (inB a 0 1048576)) ∧ w = w' := by
  go_enter Tryz.func107, Tryz.ntmps107
  go_wp2_with (go_at_call 88; refine (in_calls _ _ _ _).mono ?_; rintro e w' ⟨rfl, rfl⟩)
  go_ret
  exact ⟨rfl, rfl⟩
def okWB (c : Sp.Cl) (x : Sp.W) : Bool := decide (Sp.okW c x)
theorem weather_calls (c : Sp.Cl) (x : Sp.W) (w : World) :
    Calls Tryz.prog 163 #[vC c, vW x] w fun e w' => e = .returned (.bool (okWB c x)) ∧ Below w.heap.size w w' := by
  simp only [vC, vW]
  go_enter Tryz.func163, Tryz.ntmps163
  go_wp2_with (first | (go_at_call 107; refine (day_calls _ _).mono ?_; rintro e w' ⟨rfl, rfl⟩) | (go_at_call 88; refine (in_calls _ _ _ _).mono ?_; rintro e w' ⟨rfl, rfl⟩))
  all_goals (go_ret; exact ⟨ret_bool (by rw [Bool.eq_iff_iff]; simp only [okWB, inB, decide_eq_true_eq, Bool.false_eq_true] at *; simp only [Sp.okW, false_iff]; omega), (by repeat (first | exact Below.refl _ _ | refine balloc ?_ _ | refine bdrewN ?_ _ | refine bdrew ?_ | refine bthen ?_ (by assumption)))⟩)
theorem ab_bound {a b : Int} {n : Int} (ha : 0 ≤ a ∧ a ≤ n) (hb : 0 ≤ b ∧ b ≤ n) : 0 ≤ Sp.ab (a - b) ∧ Sp.ab (a - b) ≤ n := by unfold Sp.ab; omega
theorem swing_bound {s a : Int} (hs : 0 ≤ s ∧ s ≤ 600) (ha : 0 ≤ a ∧ a ≤ 1048576) : 0 ≤ s * a ∧ s * a ≤ 629145600 :=
  ⟨Int.mul_nonneg hs.1 ha.1, by have h1 := Int.mul_le_mul_of_nonneg_right hs.2 ha.1; omega⟩
def nearB (c : Sp.Cl) (v x : Sp.W) : Bool := decide (Sp.near c v x)
theorem near_calls (c : Sp.Cl) (v x : Sp.W) (w : World) (hs : 0 ≤ c.swing ∧ c.swing ≤ 600) (hv : -600 ≤ v.temp ∧ v.temp ≤ 600) (hx : -600 ≤ x.temp ∧ x.temp ≤ 600) (hv' : 0 ≤ v.day ∧ v.day ≤ 1048576) (hx' : 0 ≤ x.day ∧ x.day ≤ 1048576) :
    Calls Tryz.prog 164 #[vC c, vW v, vW x] w fun e w' => e = .returned (.bool (nearB c v x)) ∧ Below w.heap.size w w' := by
  have hm := swing_bound hs (ab_bound hv' hx')
  simp only [vC, vW]
  go_enter Tryz.func164, Tryz.ntmps164
  go_wp2_with fail
  go_quiet ((go_at_call 169; exact quiet_same (size_calls _ _ (by omega))))
  go_wp2
  go_ret
  exact ⟨ret_bool rfl, (by repeat (first | exact Below.refl _ _ | refine balloc ?_ _ | refine bdrewN ?_ _ | refine bdrew ?_ | refine bthen ?_ (by assumption)))⟩
theorem div_facts {a b : Int} (hb : 1 ≤ b) : (a < a.tdiv b * b → a.tdiv b - 1 = a / b) ∧ (a.tdiv b * b ≤ a → a.tdiv b = a / b) := by
  have e := Int.tmod_add_mul_tdiv a b
  have e2 := Int.emod_add_mul_ediv a b
  have r2 := Int.emod_nonneg a (show b ≠ 0 by omega)
  have r3 := Int.emod_lt_of_pos a (show 0 < b by omega)
  have r0 : (a.tmod b).natAbs < b.natAbs := by rw [Int.natAbs_tmod]; exact Nat.mod_lt _ (by omega)
  have hc : b * a.tdiv b = a.tdiv b * b := Int.mul_comm _ _
  rw [hc] at e
  have key : ∀ q : Int, 0 ≤ a - q * b → a - q * b < b → q = a / b := fun q h0 h1 => by
    have h2 : a = (a - q * b) + b * q := by rw [Int.mul_comm b q]; omega
    have h3 := (Int.ediv_emod_unique (a := a) (b := b) (r := a - q * b) (q := q) (by omega)).2 ⟨by omega, h0, h1⟩
    exact h3.1.symm
  refine ⟨fun h => key _ ?_ ?_, fun h => key _ ?_ ?_⟩
  · rw [Int.sub_mul]; omega
  · rw [Int.sub_mul]; omega
  · omega
  · omega
theorem tdiv_bound {a b : Int} (ha : -1000000000000 ≤ a ∧ a ≤ 1000000000000) (hb : 1 ≤ b) : (-1000000000000 ≤ a.tdiv b ∧ a.tdiv b ≤ 1000000000000) ∧ (-1000000000000 ≤ a.tdiv b * b ∧ a.tdiv b * b ≤ 1000000000000) := by
  have e := Int.tmod_add_mul_tdiv a b
  have h1 : (a.tdiv b).natAbs ≤ a.natAbs := by rw [Int.natAbs_tdiv]; exact Nat.div_le_self _ _
  have h2 : (a.tdiv b * b).natAbs ≤ a.natAbs := by rw [Int.natAbs_mul, Int.natAbs_tdiv]; exact Nat.div_mul_le_self _ _
  omega
theorem down_calls (a b : Int) (w : World) (ha : -1000000000000 ≤ a ∧ a ≤ 1000000000000) (hb : 1 ≤ b ∧ b ≤ 1000000) :
    Calls Tryz.prog 167 #[.int .i64 a, .int .i64 b] w fun e w' => e = .returned (.int .i64 (a / b)) ∧ w = w' := by
  have hf := tdiv_bound ha hb.1
  go_enter Tryz.func167, Tryz.ntmps167
  go_wp2
  · have h : a < a.tdiv b * b := by assumption
    go_ret
    exact ⟨ret_int ((div_facts hb.1).1 h), rfl⟩
  · have h : a.tdiv b * b ≤ a := by assumption
    go_ret
    exact ⟨ret_int ((div_facts hb.1).2 h), rfl⟩
theorem lapse_bound {c : Sp.Cl} (hc : Sp.okCl c) {h : Int} (hh : 0 ≤ h ∧ h ≤ 9000) : -180000 ≤ c.lapse * (h - c.base) ∧ c.lapse * (h - c.base) ≤ 180000 := by
  have h1 := hc.1
  have h2 := hc.2.1
  have k1 : c.lapse * (h - c.base) ≤ c.lapse * 9000 := Int.mul_le_mul_of_nonneg_left (by omega) h2.1
  have k2 : c.lapse * (-9000) ≤ c.lapse * (h - c.base) := Int.mul_le_mul_of_nonneg_left (by omega) h2.1
  omega
theorem at_calls (c : Sp.Cl) (t h : Int) (w : World) (hc : Sp.okCl c) (ht : -600 ≤ t ∧ t ≤ 600) (hh : 0 ≤ h ∧ h ≤ 9000) :
    Calls Tryz.prog 99 #[vC c, .int .i64 t, .int .i64 h] w fun e w' => e = .returned (.int .i64 (Sp.tempAt c t h)) ∧ Below w.heap.size w w' := by
  have hb := lapse_bound hc hh
  have h1 := hc.1
  have h2 : -1800 ≤ c.lapse * (h - c.base) / 100 ∧ c.lapse * (h - c.base) / 100 ≤ 1800 := by omega
  simp only [vC]
  go_enter Tryz.func99, Tryz.ntmps99
  go_wp2_with (go_at_call 167; refine (down_calls _ _ _ (by omega) (by omega)).mono ?_; rintro e w' ⟨rfl, rfl⟩)
  go_ret
  exact ⟨ret_int rfl, (by repeat (first | exact Below.refl _ _ | refine balloc ?_ _ | refine bdrewN ?_ _ | refine bdrew ?_ | refine bthen ?_ (by assumption)))⟩
end Go.Proofs.YtnpggmdpokcakaaGreatDoor
