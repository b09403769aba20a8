/- Contracts of package spring: logged, Gap. -/
import Derived.Test.YtnpggmdpokcakaaGreatDoorA9
set_option linter.unusedVariables false
set_option linter.unusedSimpArgs false
set_option linter.unnecessarySimpa false
namespace Go.Proofs.YtnpggmdpokcakaaGreatDoor
open Go.RowKit

theorem ckL_ok {c : Sp.Cl} {l : List Sp.W} (h : ckL c l = 0) : Sp.okCl c ∧ l.length ≤ 512 ∧ Sp.linked c l := by
  unfold ckL at h
  by_cases h1 : Sp.okCl c
  · rw [if_pos h1] at h
    by_cases h2 : l.length ≤ 512 ∧ Sp.linked c l
    · exact ⟨h1, h2⟩
    · rw [if_neg h2] at h; omega
  · rw [if_neg h1] at h; omega
theorem logged_bad (c : Sp.Cl) (A : Option Addr) (cap : Nat) (l : List Sp.W) (B : Option Addr) (capB : Nat) (m : List Bool) (w : World) (hr : Rd lW 3 w A l) (h : ckL c l ≠ 0) :
    Calls Tryz.prog 106 #[vC c, .slice A l.length cap, .slice B m.length capB] w fun e w' => e = .returned (.int .i64 (ckL c l)) ∧ Below w.heap.size w w' := by
  simp only [vC]
  have HR := Lib.hid hr
  clear hr
  obtain ⟨r, hr⟩ : ∃ r, ckL c l = r := ⟨_, rfl⟩
  rw [hr] at h ⊢
  have hz : decide (r = 0) = false := decide_eq_false h
  go_enter Tryz.func106, Tryz.ntmps106
  go_wp2_with (go_at_call 25; refine (CheckLog_calls c _ _ l _ (by exact HR.out.below (by repeat (first | exact Below.refl _ _ | refine balloc ?_ _ | refine bdrewN ?_ _ | refine bdrew ?_ | refine bthen ?_ (by assumption))))).mono ?_; rintro e hb1W ⟨rfl, hb1⟩; have hb1c := (bcell hb1).1; have hb1z0 : w.heap.size < hb1W.heap.size := (by have hz_ := hb1.size; (try simp at hz_); omega))
  go_ret
  exact ⟨rfl, (by repeat (first | exact Below.refl _ _ | refine balloc ?_ _ | refine bdrewN ?_ _ | refine bdrew ?_ | refine bthen ?_ (by assumption)))⟩
theorem logged_yes (c : Sp.Cl) (A : Option Addr) (cap : Nat) (l : List Sp.W) (B : Option Addr) (capB : Nat) (m : List Bool) (w : World) (hr : Rd lW 3 w A l) (hm : Rd lB 1 w B m) (h : ckL c l = 0) (hf : falseIn m = false) :
    Calls Tryz.prog 106 #[vC c, .slice A l.length cap, .slice B m.length capB] w fun e w' => e = .returned (.int .i64 0) ∧ Below w.heap.size w w' := by
  simp only [vC]
  have HR := Lib.hid hr
  have HM := Lib.hid hm
  have HC := Lib.hid (ckL_ok h).1
  clear hr hm
  go_enter Tryz.func106, Tryz.ntmps106
  go_wp2_with (first | (go_at_call 25; refine (CheckLog_calls c _ _ l _ (by exact HR.out.below (by repeat (first | exact Below.refl _ _ | refine balloc ?_ _ | refine bdrewN ?_ _ | refine bdrew ?_ | refine bthen ?_ (by assumption))))).mono ?_; rintro e hb1W ⟨rfl, hb1⟩; have hb1c := (bcell hb1).1; have hb1z0 : w.heap.size < hb1W.heap.size := (by have hz_ := hb1.size; (try simp at hz_); omega)) | (go_at_call 96; refine (asked_yes c _ _ m _ (by exact HM.out.below (by repeat (first | exact Below.refl _ _ | refine balloc ?_ _ | refine bdrewN ?_ _ | refine bdrew ?_ | refine bthen ?_ (by assumption)))) HC.out hf).mono ?_; rintro e hb2W ⟨rfl, hb2⟩; have hb2c := (bcell hb2).1))
  go_ret
  exact ⟨rfl, (by repeat (first | exact Below.refl _ _ | refine balloc ?_ _ | refine bdrewN ?_ _ | refine bdrew ?_ | refine bthen ?_ (by assumption)))⟩
theorem logged_out (c : Sp.Cl) (A : Option Addr) (cap : Nat) (l : List Sp.W) (B : Option Addr) (capB : Nat) (m : List Bool) (w : World) (hr : Rd lW 3 w A l) (hm : Rd lB 1 w B m) (h : ckL c l = 0) (hf : falseIn m = true) :
    Calls Tryz.prog 106 #[vC c, .slice A l.length cap, .slice B m.length capB] w fun e w' => e = .returned (.int .i64 1) ∧ Below w.heap.size w w' := by
  simp only [vC]
  have HR := Lib.hid hr
  have HM := Lib.hid hm
  have HC := Lib.hid (ckL_ok h).1
  clear hr hm
  go_enter Tryz.func106, Tryz.ntmps106
  go_wp2_with (first | (go_at_call 25; refine (CheckLog_calls c _ _ l _ (by exact HR.out.below (by repeat (first | exact Below.refl _ _ | refine balloc ?_ _ | refine bdrewN ?_ _ | refine bdrew ?_ | refine bthen ?_ (by assumption))))).mono ?_; rintro e hb1W ⟨rfl, hb1⟩; have hb1c := (bcell hb1).1; have hb1z0 : w.heap.size < hb1W.heap.size := (by have hz_ := hb1.size; (try simp at hz_); omega)) | (go_at_call 96; refine (asked_bad c _ _ m _ (by exact HM.out.below (by repeat (first | exact Below.refl _ _ | refine balloc ?_ _ | refine bdrewN ?_ _ | refine bdrew ?_ | refine bthen ?_ (by assumption)))) HC.out hf).mono ?_; rintro e hb2W ⟨rfl, hb2⟩; have hb2c := (bcell hb2).1))
  go_ret
  exact ⟨rfl, (by repeat (first | exact Below.refl _ _ | refine balloc ?_ _ | refine bdrewN ?_ _ | refine bdrew ?_ | refine bthen ?_ (by assumption)))⟩

end Go.Proofs.YtnpggmdpokcakaaGreatDoor
