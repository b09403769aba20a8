/- Contracts of the reference: sequence, CheckSpring. -/
import Derived.Test.YtnpggmdpokcakaaGreatDoorC3
namespace Go.Proofs.YtnpggmdpokcakaaGreatDoor
open Go.RowKit

def SeqP (c : Sp.Cl) (l : List Sp.W) : Prop := ∀ i (h : i < l.length), Sp.okW c l[i] ∧ (∀ h0 : 0 < i, Sp.near c (l[i - 1]'(by omega)) l[i])
instance (c : Sp.Cl) (l : List Sp.W) : Decidable (SeqP c l) := inferInstanceAs (Decidable (∀ i (h : i < l.length), Sp.okW c l[i] ∧ (∀ h0 : 0 < i, Sp.near c (l[i - 1]'(by omega)) l[i])))
def seqB (c : Sp.Cl) (l : List Sp.W) : Bool := decide (SeqP c l)
theorem seq_no {c : Sp.Cl} {l : List Sp.W} (h : ¬ SeqP c l) : false = seqB c l := by
  unfold seqB; symm; rw [decide_eq_false_iff_not]; exact h
theorem seq_yes {c : Sp.Cl} {l : List Sp.W} (h : SeqP c l) : true = seqB c l := by
  unfold seqB; symm; rw [decide_eq_true_iff]; exact h
/-- Where the days follow each other, that is all. -/
theorem linked_of_suc {c : Sp.Cl} {l : List Sp.W} (hs : Suc l) : Sp.linked c l ↔ SeqP c l := by
  have key : ∀ k, k ≤ l.length → (Sp.linked c (l.take k) ↔ ∀ i (h : i < l.length), i < k → Sp.okW c l[i] ∧ (∀ h0 : 0 < i, Sp.near c (l[i - 1]'(by omega)) l[i])) := by
    intro k
    induction k with
    | zero => intro _; exact ⟨fun _ i _ h => absurd h (by omega), fun _ => trivial⟩
    | succ k ih =>
      intro hk
      have hlt : k < l.length := by omega
      rw [Sp.linked_take_succ hlt, ih (by omega)]
      constructor
      · rintro ⟨h1, h2, h3⟩ i hi hik
        by_cases e : i = k
        · subst e; exact ⟨h2, fun h0 => (h3 h0).2⟩
        · exact h1 i hi (by omega)
      · intro h
        refine ⟨fun i hi hik => h i hi (by omega), (h k hlt (by omega)).1, fun h0 => ⟨?_, (h k hlt (by omega)).2 h0⟩⟩
        have a1 := (hs k hlt).2
        have a2 := (hs (k - 1) (by omega)).2
        rw [a1, a2]
        omega
  have := key l.length (Nat.le_refl _)
  rw [List.take_length] at this
  rw [this]
  exact ⟨fun h i hi => h i hi hi, fun h i hi _ => h i hi⟩
set_option maxRecDepth 100000 in
set_option maxHeartbeats 4000000 in
theorem sequence_calls (c : Sp.Cl) (A : Option Addr) (cap : Nat) (l : List Sp.W) (w : World) (hc : Sp.okCl c) (hr : Rd lW 3 w A l) :
    Calls Tryz.prog 95 #[vC c, .slice A l.length cap] w fun e w' => e = .returned (.bool (seqB c l)) ∧ Below w.heap.size w w' := by
  have hs := hc.2.2.1
  have HC := Lib.hid hc
  clear hc
  have hlen := hr.1
  have HR := Lib.hid hr
  clear hr
  simp only [vC]
  go_enter Tryz.func95, Tryz.ntmps95
  go_wp2_with fail
  go_loopw [5] (fun i wr => ∃ k : Nat, k ≤ l.length ∧ i = .int .i64 k ∧ Hid (∀ i (h : i < l.length), i < k → Sp.okW c l[i] ∧ (∀ h0 : 0 < i, Sp.near c (l[i - 1]'(by omega)) l[i])) ∧ Hid (Below w.heap.size w wr) ∧ Hid (wr.heap[w.heap.size]? = some (.cells (cC c) 25 (0, 0)))) (fun i _ => l.length - (intOf i).toNat)
  case atStart => exact ⟨0, Nat.zero_le _, rfl, Lib.hid (fun i _ h => absurd h (by omega)), Lib.hid (by repeat (first | exact Below.refl _ _ | refine balloc ?_ _ | refine bdrewN ?_ _ | refine bdrew ?_ | refine bthen ?_ (by assumption))), Lib.hid (box_new _ _)⟩
  case round =>
    obtain ⟨k, hk, rfl, HL, HB, HX⟩ := hrel
    by_cases hlt : k < l.length
    · obtain ⟨b, off, hA, hbk, x0, x1, x2⟩ := (HR.out.below HB.out).atW hlt
      subst hA
      obtain ⟨c0, c1, c2, c3, c4, c5, c6, c7⟩ := boxC HX.out
      have hg := box_lt HX.out
      obtain ⟨x, hx⟩ : ∃ x, l[k] = x := ⟨_, rfl⟩
      rw [hx] at x0 x1 x2
      have HXk := Lib.hid hx
      clear hx
      have hi0 : (0 : Int) ≤ (k : Int) := by omega
      have hi1 : (k : Int) < (l.length : Int) := by omega
      have hext := Ext.cells wr
      cases hw : okWB c x with
      | false =>
        go_wp2_with fail
        refine wp_region_ext (by kernel_rfl) (by kernel_rfl) ?_
        repeat (go_big_quiet_step ((first | (go_at_call 91; exact ext_call (valid_calls _ _ _)) | (go_at_call 92; exact ext_call (nearR_calls _ _ _ _ hs HV.out.2.1 HW.out.2.1 HV.out.1 HW.out.1)))))
        refine wpQuiet_nil ?_
        rintro _ ⟨⟨W1, hb1⟩, rfl⟩
        go_wp2
        go_ret
        exact ⟨ret_bool (seq_no (fun h => by have h3 := (h k hlt).1; rw [HXk.out] at h3; exact (of_decide_eq_false hw) h3)), bthen (bthen HB.out hb1) (Below.refl _ _)⟩
      | true =>
        have HWo := Lib.hid (of_decide_eq_true hw)
        have HW := Lib.hid (okW_range HC.out HWo.out)
        by_cases hk0 : k = 0
        · have hgb : decide (0 < k) = false := decide_eq_false (by omega)
          have HK0 := Lib.hid hk0
          clear hk0
          go_wp2_with fail
          refine wp_region_ext (by kernel_rfl) (by kernel_rfl) ?_
          repeat (go_big_quiet_step ((first | (go_at_call 91; exact ext_call (valid_calls _ _ _)) | (go_at_call 92; exact ext_call (nearR_calls _ _ _ _ hs HV.out.2.1 HW.out.2.1 HV.out.1 HW.out.1)))))
          refine wpQuiet_nil ?_
          rintro _ ⟨⟨W1, hb1⟩, rfl⟩
          go_wp2
          go_roundw
          case rel => exact ⟨k + 1, by omega, by go_num, Lib.hid (fun j hj hjk => by
            have hj0 : j = k := by have := HK0.out; omega
            subst hj0
            exact ⟨by rw [HXk.out]; exact HWo.out, fun h0 => absurd h0 (by have := HK0.out; omega)⟩), Lib.hid (bthen HB.out hb1), Lib.hid (box_below HX.out hb1)⟩
          case measure => simp [intOf]; omega
        · have hgt : (0 : Int) < (k : Int) := by omega
          have hgb : decide (0 < k) = true := decide_eq_true (by omega)
          have hj0 : (0 : Int) ≤ (k : Int) - 1 := by omega
          have hj1 : (k : Int) - 1 < (l.length : Int) := by omega
          have hjn : ((k : Int) - 1).toNat = k - 1 := by omega
          obtain ⟨b', off', hA, _, y0, y1, y2⟩ := (HR.out.below HB.out).atW (show k - 1 < l.length by omega)
          injection hA with hA
          injection hA with hA1 hA2
          subst hA1 hA2
          obtain ⟨y, hy⟩ : ∃ y, l[k - 1] = y := ⟨_, rfl⟩
          rw [hy] at y0 y1 y2
          have HY := Lib.hid hy
          clear hy
          have HV : Hid _ := Lib.hid (okW_range HC.out (show Sp.okW c y by rw [← HY.out]; exact (HL.out (k - 1) (by omega) (by omega)).1))
          cases hn : nearB c y x with
          | false =>
            go_wp2_with fail
            refine wp_region_ext (by kernel_rfl) (by kernel_rfl) ?_
            repeat (go_big_quiet_step ((first | (go_at_call 91; exact ext_call (valid_calls _ _ _)) | (go_at_call 92; exact ext_call (nearR_calls _ _ _ _ hs HV.out.2.1 HW.out.2.1 HV.out.1 HW.out.1)))))
            refine wpQuiet_nil ?_
            rintro _ ⟨⟨W1, hb1⟩, rfl⟩
            go_wp2
            go_ret
            exact ⟨ret_bool (seq_no (fun h => by have h3 := (h k hlt).2 (by omega); rw [HXk.out, HY.out] at h3; exact (of_decide_eq_false hn) h3)), bthen (bthen HB.out hb1) (Below.refl _ _)⟩
          | true =>
            have HN := Lib.hid (of_decide_eq_true hn)
            go_wp2_with fail
            refine wp_region_ext (by kernel_rfl) (by kernel_rfl) ?_
            repeat (go_big_quiet_step ((first | (go_at_call 91; exact ext_call (valid_calls _ _ _)) | (go_at_call 92; exact ext_call (nearR_calls _ _ _ _ hs HV.out.2.1 HW.out.2.1 HV.out.1 HW.out.1)))))
            refine wpQuiet_nil ?_
            rintro _ ⟨⟨W1, hb1⟩, rfl⟩
            go_wp2
            go_roundw
            case rel => exact ⟨k + 1, by omega, by go_num, Lib.hid (fun j hj hjk => by
              by_cases e : j = k
              · subst e
                exact ⟨by rw [HXk.out]; exact HWo.out, fun h0 => by rw [HXk.out, HY.out]; exact HN.out⟩
              · exact HL.out j hj (by omega)), Lib.hid (bthen HB.out hb1), Lib.hid (box_below HX.out hb1)⟩
            case measure => simp [intOf]; omega
    · go_wp2
      go_ret
      exact ⟨ret_bool (seq_yes (fun i hi => HL.out i hi (by omega))), HB.out⟩
set_option maxHeartbeats 4000000 in
theorem RSpring_calls (c : Sp.Cl) (no : Int) (A : Option Addr) (cap : Nat) (l : List Sp.W) (w : World) (hr : Rd lW 3 w A l) :
    Calls Tryz.prog 28 #[vC c, .agg #[.int .i64 no, .slice A l.length cap]] w fun e w' => e = .returned (.int .i64 (ckS c no l)) ∧ Below w.heap.size w w' := by
  simp only [vC]
  have hlen := hr.1
  have HR := Lib.hid hr
  clear hr
  by_cases hc : Sp.okCl c
  · have HC := Lib.hid hc
    clear hc
    obtain ⟨b1, hb1⟩ : ∃ b, inB no 0 4095 = b := ⟨_, rfl⟩
    obtain ⟨b3, hb3⟩ : ∃ b, rsucB l = b := ⟨_, rfl⟩
    obtain ⟨b4, hb4⟩ : ∃ b, seqB c l = b := ⟨_, rfl⟩
    have hV : Hid (ckS c no l = if (b1 && b3 && b4) = true then 0 else 62) := Lib.hid (by
      have e1 : (b1 = true) ↔ (0 ≤ no ∧ no ≤ 4095) := by rw [← hb1]; unfold inB; rw [decide_eq_true_iff]
      have e3 : (b3 = true) ↔ (Suc l ∧ 1 ≤ l.length ∧ l.length ≤ 512) := by rw [← hb3]; unfold rsucB; rw [decide_eq_true_iff]
      have e4 : (b4 = true) ↔ SeqP c l := by rw [← hb4]; unfold seqB; rw [decide_eq_true_iff]
      by_cases h : okSp c no l
      · rw [ckS_ok HC.out h, if_pos (by rw [Bool.and_eq_true, Bool.and_eq_true, e1, e3, e4]; exact ⟨⟨h.1, h.2.2.1, h.2.1⟩, (linked_of_suc h.2.2.1).1 h.2.2.2⟩)]
      · rw [ckS_bad HC.out h, if_neg (by rw [Bool.and_eq_true, Bool.and_eq_true, e1, e3, e4]; exact fun h2 => h ⟨h2.1.1, h2.1.2.2, h2.1.2.1, (linked_of_suc h2.1.2.1).2 h2.2⟩)])
    cases b1 <;> cases b3 <;> cases b4
    all_goals
      go_enter Tryz.func28, Tryz.ntmps28
      go_wp2_with (first | (go_at_call 89; refine (within_calls _ _ _ _).mono ?_; rintro e w' ⟨rfl, rfl⟩) | (go_at_call 24; refine (RClimate_ok c _ HC.out).mono ?_; rintro e hbCW ⟨rfl, hbC⟩; have hbCc := (bcell hbC).1; have hbCz0 : w.heap.size < hbCW.heap.size := (by have hz_ := hbC.size; (try simp at hz_); omega); have hbCz1 : w.heap.size + 1 < hbCW.heap.size := (by have hz_ := hbC.size; (try simp at hz_); omega)) | (go_at_call 94; refine (successiveR_calls _ _ l _ (by exact HR.out.below (by repeat (first | exact Below.refl _ _ | refine balloc ?_ _ | refine bdrewN ?_ _ | refine bdrew ?_ | refine bthen ?_ (by assumption))))).mono ?_; rintro e hbSW ⟨rfl, hbS⟩; have hbSc := (bcell hbS).1; have hbSz0 : w.heap.size < hbSW.heap.size := (by have hz_ := hbS.size; (try simp at hz_); omega); have hbSz1 : w.heap.size + 1 < hbSW.heap.size := (by have hz_ := hbS.size; (try simp at hz_); omega)) | (go_at_call 95; refine (sequence_calls c _ _ l _ HC.out (by exact HR.out.below (by repeat (first | exact Below.refl _ _ | refine balloc ?_ _ | refine bdrewN ?_ _ | refine bdrew ?_ | refine bthen ?_ (by assumption))))).mono ?_; rintro e hbLW ⟨rfl, hbL⟩; have hbLc := (bcell hbL).1))
      go_ret
      exact ⟨ret_int (by rw [hV.out]; rfl), (by repeat (first | exact Below.refl _ _ | refine balloc ?_ _ | refine bdrewN ?_ _ | refine bdrew ?_ | refine bthen ?_ (by assumption)))⟩
  · rw [ckS_no hc]
    have HC := Lib.hid hc
    clear hc
    go_enter Tryz.func28, Tryz.ntmps28
    go_wp2_with (go_at_call 24; refine (RClimate_no c _ HC.out).mono ?_; rintro e hbCW ⟨rfl, hbC⟩; have hbCc := (bcell hbC).1)
    go_ret
    exact ⟨rfl, (by repeat (first | exact Below.refl _ _ | refine balloc ?_ _ | refine bdrewN ?_ _ | refine bdrew ?_ | refine bthen ?_ (by assumption)))⟩

end Go.Proofs.YtnpggmdpokcakaaGreatDoor
