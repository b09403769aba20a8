/- Contracts of the reference: CheckLog. -/
import Derived.Test.YtnpggmdpokcakaaGreatDoorC1
set_option linter.unusedVariables false
set_option linter.unusedSimpArgs false
set_option linter.unnecessarySimpa false
namespace Go.Proofs.YtnpggmdpokcakaaGreatDoor
open Go.RowKit

set_option maxRecDepth 100000 in
set_option maxHeartbeats 4000000 in
theorem RLog_calls (c : Sp.Cl) (A : Option Addr) (cap : Nat) (l : List Sp.W) (w : World) (hr : Rd lW 3 w A l) :
    Calls Tryz.prog 26 #[vC c, .slice A l.length cap] w fun e w' => e = .returned (.int .i64 (ckL c l)) ∧ Below w.heap.size w w' := by
  have hlen := hr.1
  have HR := Lib.hid hr
  clear hr
  unfold ckL
  by_cases hc : Sp.okCl c
  · rw [if_pos hc]
    have hs := hc.2.2.1
    have HC := Lib.hid hc
    clear hc
    simp only [vC]
    by_cases hl : l.length ≤ 512
    · have hg : ¬ (512 : Int) < (l.length : Int) := by omega
      have hgn : decide (512 < l.length) = false := decide_eq_false (by omega)
      have HL2 := Lib.hid hl
      obtain ⟨V, hV⟩ : ∃ V : Int, (if l.length ≤ 512 ∧ Sp.linked c l then (0 : Int) else 60) = V := ⟨_, rfl⟩
      rw [hV]
      have HRes := Lib.hid hV
      clear hV hl
      go_enter Tryz.func26, Tryz.ntmps26
      go_wp2_with (go_at_call 24; refine (RClimate_ok c _ HC.out).mono ?_; rintro e hb1W ⟨rfl, hb1⟩; have hb1c := (bcell hb1).1; have hb1z0 : w.heap.size < hb1W.heap.size := (by have hz_ := hb1.size; (try simp at hz_); omega))
      go_loopw [5] (fun i wr => ∃ k : Nat, k ≤ l.length ∧ i = .int .i64 k ∧ Hid (Sp.linked c (l.take k)) ∧ Hid (Below w.heap.size w wr) ∧ Hid (wr.heap[w.heap.size]? = some (.cells (cC c) 25 (0, 0)))) (fun i _ => l.length - (intOf i).toNat)
      case atStart => exact ⟨0, Nat.zero_le _, rfl, Lib.hid trivial, Lib.hid (by repeat (first | exact Below.refl _ _ | refine balloc ?_ _ | refine bdrewN ?_ _ | refine bdrew ?_ | refine bthen ?_ (by assumption))), Lib.hid (by repeat (first | (with_reducible exact box_new _ _) | (refine box_at ?_ _; simp; done) | (with_reducible refine box_alloc _ ?_) | (with_reducible refine box_drewN ?_ _) | (with_reducible refine box_drew ?_) | (with_reducible refine box_below ?_ (by assumption))))⟩
      case round =>
        obtain ⟨k, hk, rfl, HL, HB, HX⟩ := hrel
        by_cases hlt : k < l.length
        · obtain ⟨b, off, hA, hbk, x0, x1, x2⟩ := (HR.out.below HB.out).atW hlt
          subst hA
          obtain ⟨c0, c1, c2, c3, c4, c5, c6, c7⟩ := boxC HX.out
          have hg := box_lt HX.out
          obtain ⟨x, hx⟩ : ∃ x, l[k] = x := ⟨_, rfl⟩
          rw [hx] at x0 x1 x2
          have HXk := Lib.hid hx
          clear hx
          have hi0 : (0 : Int) ≤ (k : Int) := by omega
          have hi1 : (k : Int) < (l.length : Int) := by omega
          have hext := Ext.cells wr
          cases hw : okWB c x with
          | false =>
            go_wp2_with fail
            refine wp_region_ext (by kernel_rfl) (by kernel_rfl) ?_
            repeat (go_big_quiet_step (first | (go_at_call 91; exact ext_call (valid_calls _ _ _)) | (go_at_call 92; exact ext_call (nearR_calls _ _ _ _ hs HV.out.2.1 HW.out.2.1 HV.out.1 HW.out.1))))
            refine wpQuiet_nil ?_
            rintro _ ⟨⟨W1, hb1⟩, rfl⟩
            go_wp2
            go_ret
            exact ⟨ret_int (by rw [← HRes.out]; symm; rw [if_neg]; rintro ⟨_, h⟩; have h2 := (Sp.linked_take_succ hlt).1 (Sp.linked_take h (k + 1)); have h3 := h2.2.1; rw [HXk.out] at h3; exact (of_decide_eq_false hw) h3), bthen (bthen HB.out hb1) (Below.refl _ _)⟩
          | true =>
            have HWo := Lib.hid (of_decide_eq_true hw)
            have HW := Lib.hid (okW_range HC.out HWo.out)
            by_cases hk0 : k = 0
            · have hgb : decide (0 < k) = false := decide_eq_false (by omega)
              have HK0 := Lib.hid hk0
              clear hk0
              go_wp2_with fail
              refine wp_region_ext (by kernel_rfl) (by kernel_rfl) ?_
              repeat (go_big_quiet_step (first | (go_at_call 91; exact ext_call (valid_calls _ _ _)) | (go_at_call 92; exact ext_call (nearR_calls _ _ _ _ hs HV.out.2.1 HW.out.2.1 HV.out.1 HW.out.1))))
              refine wpQuiet_nil ?_
              rintro _ ⟨⟨W1, hb1⟩, rfl⟩
              go_wp2
              go_roundw
              case rel => exact ⟨k + 1, by omega, by go_num, Lib.hid ((Sp.linked_take_succ hlt).2 ⟨HL.out, by rw [HXk.out]; exact HWo.out, fun h => absurd h (by have := HK0.out; omega)⟩), Lib.hid (bthen HB.out hb1), Lib.hid (box_below HX.out hb1)⟩
              case measure => simp [intOf]; omega
            · have hgt : (0 : Int) < (k : Int) := by omega
              have hgb : decide (0 < k) = true := decide_eq_true (by omega)
              have hj0 : (0 : Int) ≤ (k : Int) - 1 := by omega
              have hj1 : (k : Int) - 1 < (l.length : Int) := by omega
              have hjn : ((k : Int) - 1).toNat = k - 1 := by omega
              obtain ⟨b', off', hA, _, y0, y1, y2⟩ := (HR.out.below HB.out).atW (show k - 1 < l.length by omega)
              injection hA with hA
              injection hA with hA1 hA2
              subst hA1 hA2
              obtain ⟨y, hy⟩ : ∃ y, l[k - 1] = y := ⟨_, rfl⟩
              rw [hy] at y0 y1 y2
              have HY := Lib.hid hy
              clear hy
              have HV : Hid _ := Lib.hid (okW_range HC.out (Sp.linked_ok HL.out y (by rw [← HY.out]; exact List.mem_take_iff_getElem.2 ⟨k - 1, by omega, rfl⟩)))
              by_cases hd : x.day ≤ y.day
              · have hdb : decide (x.day ≤ y.day) = true := decide_eq_true hd
                go_wp2_with fail
                refine wp_region_ext (by kernel_rfl) (by kernel_rfl) ?_
                repeat (go_big_quiet_step (first | (go_at_call 91; exact ext_call (valid_calls _ _ _)) | (go_at_call 92; exact ext_call (nearR_calls _ _ _ _ hs HV.out.2.1 HW.out.2.1 HV.out.1 HW.out.1))))
                refine wpQuiet_nil ?_
                rintro _ ⟨⟨W1, hb1⟩, rfl⟩
                go_wp2
                go_ret
                exact ⟨ret_int (by rw [← HRes.out]; symm; rw [if_neg]; rintro ⟨_, h⟩; have h2 := (Sp.linked_take_succ hlt).1 (Sp.linked_take h (k + 1)); have h3 := (h2.2.2 (by omega)).1; rw [HXk.out, HY.out] at h3; omega), bthen (bthen HB.out hb1) (Below.refl _ _)⟩
              · have hdb : decide (x.day ≤ y.day) = false := decide_eq_false hd
                cases hn : nearB c y x with
                | false =>
                  go_wp2_with fail
                  refine wp_region_ext (by kernel_rfl) (by kernel_rfl) ?_
                  repeat (go_big_quiet_step (first | (go_at_call 91; exact ext_call (valid_calls _ _ _)) | (go_at_call 92; exact ext_call (nearR_calls _ _ _ _ hs HV.out.2.1 HW.out.2.1 HV.out.1 HW.out.1))))
                  refine wpQuiet_nil ?_
                  rintro _ ⟨⟨W1, hb1⟩, rfl⟩
                  go_wp2
                  go_ret
                  exact ⟨ret_int (by rw [← HRes.out]; symm; rw [if_neg]; rintro ⟨_, h⟩; have h2 := (Sp.linked_take_succ hlt).1 (Sp.linked_take h (k + 1)); have h3 := (h2.2.2 (by omega)).2; rw [HXk.out, HY.out] at h3; exact (of_decide_eq_false hn) h3), bthen (bthen HB.out hb1) (Below.refl _ _)⟩
                | true =>
                  have HN := Lib.hid (of_decide_eq_true hn)
                  go_wp2_with fail
                  refine wp_region_ext (by kernel_rfl) (by kernel_rfl) ?_
                  repeat (go_big_quiet_step (first | (go_at_call 91; exact ext_call (valid_calls _ _ _)) | (go_at_call 92; exact ext_call (nearR_calls _ _ _ _ hs HV.out.2.1 HW.out.2.1 HV.out.1 HW.out.1))))
                  refine wpQuiet_nil ?_
                  rintro _ ⟨⟨W1, hb1⟩, rfl⟩
                  go_wp2
                  go_roundw
                  case rel => exact ⟨k + 1, by omega, by go_num, Lib.hid ((Sp.linked_take_succ hlt).2 ⟨HL.out, by rw [HXk.out]; exact HWo.out, fun h => by rw [HXk.out, HY.out]; exact ⟨by omega, HN.out⟩⟩), Lib.hid (bthen HB.out hb1), Lib.hid (box_below HX.out hb1)⟩
                  case measure => simp [intOf]; omega
        · go_wp2
          go_ret
          exact ⟨ret_int (by rw [← HRes.out]; symm; have h := HL.out; rw [List.take_of_length_le (by omega)] at h; rw [if_pos ⟨HL2.out, h⟩]), HB.out⟩
    · rw [if_neg (fun h => hl h.1)]
      have hg : (512 : Int) < (l.length : Int) := by omega
      have hgn : decide (512 < l.length) = true := decide_eq_true (by omega)
      go_enter Tryz.func26, Tryz.ntmps26
      go_wp2_with (go_at_call 24; refine (RClimate_ok c _ HC.out).mono ?_; rintro e hb1W ⟨rfl, hb1⟩; have hb1c := (bcell hb1).1; have hb1z0 : w.heap.size < hb1W.heap.size := (by have hz_ := hb1.size; (try simp at hz_); omega))
      go_ret
      exact ⟨rfl, (by repeat (first | exact Below.refl _ _ | refine balloc ?_ _ | refine bdrewN ?_ _ | refine bdrew ?_ | refine bthen ?_ (by assumption)))⟩
  · rw [if_neg hc]
    have HC := Lib.hid hc
    clear hc
    simp only [vC]
    go_enter Tryz.func26, Tryz.ntmps26
    go_wp2_with (go_at_call 24; refine (RClimate_no c _ HC.out).mono ?_; rintro e hb1W ⟨rfl, hb1⟩; have hb1c := (bcell hb1).1)
    go_ret
    exact ⟨rfl, (by repeat (first | exact Below.refl _ _ | refine balloc ?_ _ | refine bdrewN ?_ _ | refine bdrew ?_ | refine bthen ?_ (by assumption)))⟩

end Go.Proofs.YtnpggmdpokcakaaGreatDoor
