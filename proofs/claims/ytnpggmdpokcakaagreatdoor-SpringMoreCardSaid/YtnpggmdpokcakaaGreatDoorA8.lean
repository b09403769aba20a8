/- Contracts of package spring: CheckLog, CheckSpring, begin, end, stretch. -/
import Derived.Test.YtnpggmdpokcakaaGreatDoorA7
set_option linter.unusedVariables false
set_option linter.unusedSimpArgs false
set_option linter.unnecessarySimpa false
namespace Go.Proofs.YtnpggmdpokcakaaGreatDoor
open Go.RowKit

def ckL (c : Sp.Cl) (l : List Sp.W) : Int := if Sp.okCl c then if l.length ≤ 512 ∧ Sp.linked c l then 0 else 60 else 61
theorem linkedB_yes {c : Sp.Cl} {l : List Sp.W} (h : Sp.linked c l) : linkedB c l = true := decide_eq_true h
theorem linkedB_no {c : Sp.Cl} {l : List Sp.W} (h : ¬ Sp.linked c l) : linkedB c l = false := decide_eq_false h
set_option maxHeartbeats 2000000 in
theorem CheckLog_calls (c : Sp.Cl) (A : Option Addr) (cap : Nat) (l : List Sp.W) (w : World) (hr : Rd lW 3 w A l) :
    Calls Tryz.prog 25 #[vC c, .slice A l.length cap] w fun e w' => e = .returned (.int .i64 (ckL c l)) ∧ Below w.heap.size w w' := by
  simp only [vC]
  have hlen := hr.1
  have HR := Lib.hid hr
  clear hr
  unfold ckL
  by_cases hc : Sp.okCl c
  · rw [if_pos hc]
    have HC := Lib.hid hc
    clear hc
    by_cases hl : l.length ≤ 512
    · have hg : ¬ (512 : Int) < (l.length : Int) := by omega
      have hgn : decide (512 < l.length) = false := decide_eq_false (by omega)
      by_cases hk : Sp.linked c l
      · rw [if_pos ⟨hl, hk⟩]
        have hb := linkedB_yes hk
        clear hk
        go_enter Tryz.func25, Tryz.ntmps25
        go_wp2_with (first | (go_at_call 23; refine (CheckClimate_ok c _ HC.out).mono ?_; rintro e hb1W ⟨rfl, hb1⟩; have hb1c := (bcell hb1).1; have hb1z0 : w.heap.size < hb1W.heap.size := (by have hz_ := hb1.size; (try simp at hz_); omega)) | (go_at_call 90; refine (linked_calls c _ _ l _ HC.out (by exact HR.out.below (by repeat (first | exact Below.refl _ _ | refine balloc ?_ _ | refine bdrewN ?_ _ | refine bdrew ?_ | refine bthen ?_ (by assumption))))).mono ?_; rintro e hb2W ⟨rfl, hb2⟩; have hb2c := (bcell hb2).1))
        go_ret
        exact ⟨rfl, (by repeat (first | exact Below.refl _ _ | refine balloc ?_ _ | refine bdrewN ?_ _ | refine bdrew ?_ | refine bthen ?_ (by assumption)))⟩
      · rw [if_neg (fun h => hk h.2)]
        have hb := linkedB_no hk
        clear hk
        go_enter Tryz.func25, Tryz.ntmps25
        go_wp2_with (first | (go_at_call 23; refine (CheckClimate_ok c _ HC.out).mono ?_; rintro e hb1W ⟨rfl, hb1⟩; have hb1c := (bcell hb1).1; have hb1z0 : w.heap.size < hb1W.heap.size := (by have hz_ := hb1.size; (try simp at hz_); omega)) | (go_at_call 90; refine (linked_calls c _ _ l _ HC.out (by exact HR.out.below (by repeat (first | exact Below.refl _ _ | refine balloc ?_ _ | refine bdrewN ?_ _ | refine bdrew ?_ | refine bthen ?_ (by assumption))))).mono ?_; rintro e hb2W ⟨rfl, hb2⟩; have hb2c := (bcell hb2).1))
        go_ret
        exact ⟨rfl, (by repeat (first | exact Below.refl _ _ | refine balloc ?_ _ | refine bdrewN ?_ _ | refine bdrew ?_ | refine bthen ?_ (by assumption)))⟩
    · rw [if_neg (fun h => hl h.1)]
      have hg : (512 : Int) < (l.length : Int) := by omega
      have hgn : decide (512 < l.length) = true := decide_eq_true (by omega)
      go_enter Tryz.func25, Tryz.ntmps25
      go_wp2_with (go_at_call 23; refine (CheckClimate_ok c _ HC.out).mono ?_; rintro e hb1W ⟨rfl, hb1⟩; have hb1c := (bcell hb1).1; have hb1z0 : w.heap.size < hb1W.heap.size := (by have hz_ := hb1.size; (try simp at hz_); omega))
      go_ret
      exact ⟨rfl, (by repeat (first | exact Below.refl _ _ | refine balloc ?_ _ | refine bdrewN ?_ _ | refine bdrew ?_ | refine bthen ?_ (by assumption)))⟩
  · rw [if_neg hc]
    have HC := Lib.hid hc
    clear hc
    go_enter Tryz.func25, Tryz.ntmps25
    go_wp2_with (go_at_call 23; refine (CheckClimate_no c _ HC.out).mono ?_; rintro e hb1W ⟨rfl, hb1⟩; have hb1c := (bcell hb1).1)
    go_ret
    exact ⟨rfl, (by repeat (first | exact Below.refl _ _ | refine balloc ?_ _ | refine bdrewN ?_ _ | refine bdrew ?_ | refine bthen ?_ (by assumption)))⟩
/-- A spring of a valid climate. -/
def okSp (c : Sp.Cl) (no : Int) (l : List Sp.W) : Prop := (0 ≤ no ∧ no ≤ 4095) ∧ (1 ≤ l.length ∧ l.length ≤ 512) ∧ Suc l ∧ Sp.linked c l
instance (c : Sp.Cl) (no : Int) (l : List Sp.W) : Decidable (okSp c no l) := by unfold okSp; infer_instance
def ckS (c : Sp.Cl) (no : Int) (l : List Sp.W) : Int := if Sp.okCl c then if okSp c no l then 0 else 62 else 61
theorem ckS_ok {c : Sp.Cl} {no : Int} {l : List Sp.W} (h : Sp.okCl c) (h2 : okSp c no l) : ckS c no l = 0 := by unfold ckS; rw [if_pos h, if_pos h2]
theorem ckS_bad {c : Sp.Cl} {no : Int} {l : List Sp.W} (h : Sp.okCl c) (h2 : ¬ okSp c no l) : ckS c no l = 62 := by unfold ckS; rw [if_pos h, if_neg h2]
theorem ckS_no {c : Sp.Cl} {no : Int} {l : List Sp.W} (h : ¬ Sp.okCl c) : ckS c no l = 61 := by unfold ckS; rw [if_neg h]
set_option maxHeartbeats 4000000 in
theorem CheckSpring_calls (c : Sp.Cl) (no : Int) (A : Option Addr) (cap : Nat) (l : List Sp.W) (w : World) (hr : Rd lW 3 w A l) :
    Calls Tryz.prog 27 #[vC c, .agg #[.int .i64 no, .slice A l.length cap]] w fun e w' => e = .returned (.int .i64 (ckS c no l)) ∧ Below w.heap.size w w' := by
  simp only [vC]
  have hlen := hr.1
  have HR := Lib.hid hr
  clear hr
  by_cases hc : Sp.okCl c
  · have HC := Lib.hid hc
    clear hc
    obtain ⟨b1, hb1⟩ : ∃ b, inB no 0 4095 = b := ⟨_, rfl⟩
    obtain ⟨b2, hb2⟩ : ∃ b, inB (l.length : Int) 1 512 = b := ⟨_, rfl⟩
    obtain ⟨b3, hb3⟩ : ∃ b, sucB l = b := ⟨_, rfl⟩
    obtain ⟨b4, hb4⟩ : ∃ b, linkedB c l = b := ⟨_, rfl⟩
    have hV : Hid (ckS c no l = if (b1 && b2 && b3 && b4) = true then 0 else 62) := Lib.hid (by
      have e1 : (b1 = true) ↔ (0 ≤ no ∧ no ≤ 4095) := by rw [← hb1]; unfold inB; rw [decide_eq_true_iff]
      have e2 : (b2 = true) ↔ (1 ≤ l.length ∧ l.length ≤ 512) := by rw [← hb2]; unfold inB; rw [decide_eq_true_iff]; omega
      have e3 : (b3 = true) ↔ Suc l := by rw [← hb3]; exact sucB_iff l
      have e4 : (b4 = true) ↔ Sp.linked c l := by rw [← hb4]; unfold linkedB; rw [decide_eq_true_iff]
      by_cases h : okSp c no l
      · rw [ckS_ok HC.out h, if_pos (by rw [Bool.and_eq_true, Bool.and_eq_true, Bool.and_eq_true, e1, e2, e3, e4]; exact ⟨⟨⟨h.1, h.2.1⟩, h.2.2.1⟩, h.2.2.2⟩)]
      · rw [ckS_bad HC.out h, if_neg (by rw [Bool.and_eq_true, Bool.and_eq_true, Bool.and_eq_true, e1, e2, e3, e4]; exact fun h2 => h ⟨h2.1.1.1, h2.1.1.2, h2.1.2, h2.2⟩)])
    cases b1 <;> cases b2 <;> cases b3 <;> cases b4
    all_goals
      go_enter Tryz.func27, Tryz.ntmps27
      go_wp2_with (first | (go_at_call 88; refine (in_calls _ _ _ _).mono ?_; rintro e w' ⟨rfl, rfl⟩) | (go_at_call 23; refine (CheckClimate_ok c _ HC.out).mono ?_; rintro e hbCW ⟨rfl, hbC⟩; have hbCc := (bcell hbC).1; have hbCz0 : w.heap.size < hbCW.heap.size := (by have hz_ := hbC.size; (try simp at hz_); omega); have hbCz1 : w.heap.size + 1 < hbCW.heap.size := (by have hz_ := hbC.size; (try simp at hz_); omega)) | (go_at_call 93; refine (successive_calls _ _ l _ (by exact HR.out.below (by repeat (first | exact Below.refl _ _ | refine balloc ?_ _ | refine bdrewN ?_ _ | refine bdrew ?_ | refine bthen ?_ (by assumption))))).mono ?_; rintro e hbSW ⟨rfl, hbS⟩; have hbSc := (bcell hbS).1; have hbSz0 : w.heap.size < hbSW.heap.size := (by have hz_ := hbS.size; (try simp at hz_); omega); have hbSz1 : w.heap.size + 1 < hbSW.heap.size := (by have hz_ := hbS.size; (try simp at hz_); omega)) | (go_at_call 90; refine (linked_calls c _ _ l _ HC.out (by exact HR.out.below (by repeat (first | exact Below.refl _ _ | refine balloc ?_ _ | refine bdrewN ?_ _ | refine bdrew ?_ | refine bthen ?_ (by assumption))))).mono ?_; rintro e hbLW ⟨rfl, hbL⟩; have hbLc := (bcell hbL).1))
      go_ret
      exact ⟨ret_int (by rw [hV.out]; rfl), (by repeat (first | exact Below.refl _ _ | refine balloc ?_ _ | refine bdrewN ?_ _ | refine bdrew ?_ | refine bthen ?_ (by assumption)))⟩
  · rw [ckS_no hc]
    have HC := Lib.hid hc
    clear hc
    go_enter Tryz.func27, Tryz.ntmps27
    go_wp2_with (go_at_call 23; refine (CheckClimate_no c _ HC.out).mono ?_; rintro e hbCW ⟨rfl, hbC⟩; have hbCc := (bcell hbC).1)
    go_ret
    exact ⟨rfl, (by repeat (first | exact Below.refl _ _ | refine balloc ?_ _ | refine bdrewN ?_ _ | refine bdrew ?_ | refine bthen ?_ (by assumption)))⟩
def day0 (l : List Sp.W) : Int := (l.getD 0 default).day
theorem day0_eq {l : List Sp.W} (h : 0 < l.length) : l[0].day = day0 l := by unfold day0; simp [List.getD, List.getElem?_eq_getElem h]
theorem begin_calls (no : Int) (A : Option Addr) (cap : Nat) (l : List Sp.W) (w : World) (hr : Rd lW 3 w A l) (h : 0 < l.length) :
    Calls Tryz.prog 116 #[.agg #[.int .i64 no, .slice A l.length cap]] w fun e w' => e = .returned (.int .i64 (day0 l)) ∧ Below w.heap.size w w' := by
  obtain ⟨b, off, hA, hbk, x0, x1, x2⟩ := (hr.below (balloc (Below.refl _ _) (.cells #[.int .i64 no, .slice A l.length cap] 28))).atW h
  subst hA
  rw [day0_eq h] at x0
  simp only [Nat.zero_mul, Nat.add_zero] at x0
  have hi : (0 : Int) < (l.length : Int) := by omega
  clear hr x1 x2
  go_enter Tryz.func116, Tryz.ntmps116
  go_wp2
  go_ret
  exact ⟨rfl, (by repeat (first | exact Below.refl _ _ | refine balloc ?_ _ | refine bdrewN ?_ _ | refine bdrew ?_ | refine bthen ?_ (by assumption)))⟩
theorem end_calls (no : Int) (A : Option Addr) (cap : Nat) (l : List Sp.W) (w : World) (hr : Rd lW 3 w A l) (h : 0 < l.length) (hd : 0 ≤ day0 l ∧ day0 l ≤ 1048576) (hl : l.length ≤ 512) :
    Calls Tryz.prog 117 #[.agg #[.int .i64 no, .slice A l.length cap]] w fun e w' => e = .returned (.int .i64 (day0 l + l.length)) ∧ Below w.heap.size w w' := by
  have HR := Lib.hid hr
  clear hr
  have hs : IntKind.i64.wrap (day0 l + (l.length : Int)) = day0 l + (l.length : Int) := IntWalk.i64_in _ (by omega)
  go_enter Tryz.func117, Tryz.ntmps117
  go_wp2_with fail
  have hext := Ext.cells (w.alloc (.cells #[.int .i64 no, .slice A l.length cap] 28))
  refine wp_region_ext (by kernel_rfl) (by kernel_rfl) ?_
  repeat (go_big_quiet_step ((go_at_call 116; exact ext_call (begin_calls no _ _ l _ (HR.out.below (bthen (balloc (Below.refl _ _) _) (Subtype.property _))) h))))
  refine wpQuiet_nil ?_
  rintro _ ⟨⟨W1, hb1⟩, rfl⟩
  go_wp2
  go_ret
  exact ⟨rfl, (by repeat (first | exact Below.refl _ _ | refine balloc ?_ _ | refine bdrewN ?_ _ | refine bdrew ?_ | refine bthen ?_ (by assumption)))⟩
def stretchE (a b : Int) : Int := if a < 0 ∨ b ≤ a ∨ 1048576 < b then 1 else if 512 < b - a then 2 else 0
theorem stretch_calls (a b : Int) (w : World) :
    Calls Tryz.prog 112 #[.int .i64 a, .int .i64 b] w fun e w' => e = .returned (.int .i64 (stretchE a b)) ∧ w = w' := by
  by_cases h0 : a < 0
  · go_enter Tryz.func112, Tryz.ntmps112
    go_wp2
    go_ret
    exact ⟨ret_int (by unfold stretchE; rw [if_pos (by omega)]), rfl⟩
  · by_cases h1 : b ≤ a
    · go_enter Tryz.func112, Tryz.ntmps112
      go_wp2
      go_ret
      exact ⟨ret_int (by unfold stretchE; rw [if_pos (by omega)]), rfl⟩
    · by_cases h2 : 1048576 < b
      · go_enter Tryz.func112, Tryz.ntmps112
        go_wp2
        go_ret
        exact ⟨ret_int (by unfold stretchE; rw [if_pos (by omega)]), rfl⟩
      · by_cases h3 : 512 < b - a
        · go_enter Tryz.func112, Tryz.ntmps112
          go_wp2
          go_ret
          exact ⟨ret_int (by unfold stretchE; rw [if_neg (by omega), if_pos h3]), rfl⟩
        · go_enter Tryz.func112, Tryz.ntmps112
          go_wp2
          go_ret
          exact ⟨ret_int (by unfold stretchE; rw [if_neg (by omega), if_neg (by omega)]), rfl⟩

end Go.Proofs.YtnpggmdpokcakaaGreatDoor
