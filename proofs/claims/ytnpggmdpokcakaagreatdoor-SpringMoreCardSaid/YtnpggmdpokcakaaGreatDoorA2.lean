/- Contracts of package spring: chains of weathers. -/
import Derived.Test.YtnpggmdpokcakaaGreatDoorA1
namespace Go.Proofs.YtnpggmdpokcakaaGreatDoor
open Go.RowKit

theorem Rd.atW {w : World} {A : Option Addr} {l : List Sp.W} (h : Rd lW 3 w A l) {k : Nat} (hk : k < l.length) : ∃ b off, A = some ⟨b, off, none⟩ ∧ b < w.heap.size ∧
    w.cell? ⟨b, off + k * 3, none⟩ = some (.int .i64 l[k].day) ∧ w.cell? ⟨b, off + k * 3 + 1, none⟩ = some (.int .i64 l[k].temp) ∧ w.cell? ⟨b, off + k * 3 + 2, none⟩ = some (.int .i64 l[k].rain) := by
  obtain ⟨b, off, e, hlt, hc⟩ := h.2 k hk
  exact ⟨b, off, e, hlt, hc 0 _ rfl, hc 1 _ rfl, hc 2 _ rfl⟩

theorem okW_range {c : Sp.Cl} (hc : Sp.okCl c) {x : Sp.W} (h : Sp.okW c x) : (0 ≤ x.day ∧ x.day ≤ 1048576) ∧ (-600 ≤ x.temp ∧ x.temp ≤ 600) ∧ (0 ≤ x.rain ∧ x.rain ≤ 1000) := by
  have h1 := hc.2.2.2.1
  have h2 := hc.2.2.2.2.1
  unfold Sp.okW at h
  omega
def linkedB (c : Sp.Cl) (l : List Sp.W) : Bool := decide (Sp.linked c l)
set_option maxRecDepth 100000 in
set_option maxHeartbeats 4000000 in
theorem linked_calls (c : Sp.Cl) (A : Option Addr) (cap : Nat) (l : List Sp.W) (w : World) (hc : Sp.okCl c) (hr : Rd lW 3 w A l) :
    Calls Tryz.prog 90 #[vC c, .slice A l.length cap] w fun e w' => e = .returned (.bool (linkedB c l)) ∧ Below w.heap.size w w' := by
  have hs := hc.2.2.1
  have HC := Lib.hid hc
  clear hc
  have hlen := hr.1
  have HR := Lib.hid hr
  clear hr
  simp only [vC]
  go_enter Tryz.func90, Tryz.ntmps90
  go_wp2_with fail
  go_loopw [8] (fun i wr => ∃ k : Nat, k ≤ l.length ∧ i = .int .i64 k ∧ Hid (Sp.linked c (l.take k)) ∧ Hid (Below w.heap.size w wr) ∧ Hid (wr.heap[w.heap.size]? = some (.cells (cC c) 25 (0, 0)))) (fun i _ => l.length - (intOf i).toNat)
  case atStart => exact ⟨0, Nat.zero_le _, rfl, Lib.hid trivial, Lib.hid (by repeat (first | exact Below.refl _ _ | refine balloc ?_ _ | refine bdrewN ?_ _ | refine bdrew ?_ | refine bthen ?_ (by assumption))), Lib.hid (box_new _ _)⟩
  case round =>
    obtain ⟨k, hk, rfl, HL, HB, HX⟩ := hrel
    by_cases hlt : k < l.length
    · obtain ⟨b, off, hA, hbk, x0, x1, x2⟩ := (HR.out.below HB.out).atW hlt
      subst hA
      obtain ⟨c0, c1, c2, c3, c4, c5, c6, c7⟩ := boxC HX.out
      have hg := box_lt HX.out
      obtain ⟨x, hx⟩ : ∃ x, l[k] = x := ⟨_, rfl⟩
      rw [hx] at x0 x1 x2
      have HXk := Lib.hid hx
      clear hx
      have hi0 : (0 : Int) ≤ (k : Int) := by omega
      have hi1 : (k : Int) < (l.length : Int) := by omega
      have hext := Ext.cells wr
      cases hw : okWB c x with
      | false =>
        go_wp2_with fail
        refine wp_region_ext (by kernel_rfl) (by kernel_rfl) ?_
        repeat (go_big_quiet_step (first | (go_at_call 163; exact ext_call (weather_calls _ _ _)) | (go_at_call 164; exact ext_call (near_calls _ _ _ _ hs HV.out.2.1 HW.out.2.1 HV.out.1 HW.out.1))))
        refine wpQuiet_nil ?_
        rintro _ ⟨⟨W1, hb1⟩, rfl⟩
        go_wp2
        go_ret
        exact ⟨ret_bool (by symm; unfold linkedB; rw [decide_eq_false_iff_not]; intro h; have h2 := (Sp.linked_take_succ hlt).1 (Sp.linked_take h (k + 1)); have h3 := h2.2.1; rw [HXk.out] at h3; exact (of_decide_eq_false hw) h3), bthen (bthen HB.out hb1) (Below.refl _ _)⟩
      | true =>
        have HWo := Lib.hid (of_decide_eq_true hw)
        have HW := Lib.hid (okW_range HC.out HWo.out)
        by_cases hk0 : k = 0
        · have hgb : decide (0 < k) = false := decide_eq_false (by omega)
          have HK0 := Lib.hid hk0
          clear hk0
          go_wp2_with fail
          refine wp_region_ext (by kernel_rfl) (by kernel_rfl) ?_
          repeat (go_big_quiet_step (first | (go_at_call 163; exact ext_call (weather_calls _ _ _)) | (go_at_call 164; exact ext_call (near_calls _ _ _ _ hs HV.out.2.1 HW.out.2.1 HV.out.1 HW.out.1))))
          refine wpQuiet_nil ?_
          rintro _ ⟨⟨W1, hb1⟩, rfl⟩
          go_wp2
          go_roundw
          case rel => exact ⟨k + 1, by omega, by go_num, Lib.hid ((Sp.linked_take_succ hlt).2 ⟨HL.out, by rw [HXk.out]; exact HWo.out, fun h => absurd h (by have := HK0.out; omega)⟩), Lib.hid (bthen HB.out hb1), Lib.hid (box_below HX.out hb1)⟩
          case measure => simp [intOf]; omega
        · have hgt : (0 : Int) < (k : Int) := by omega
          have hgb : decide (0 < k) = true := decide_eq_true (by omega)
          have hj0 : (0 : Int) ≤ (k : Int) - 1 := by omega
          have hj1 : (k : Int) - 1 < (l.length : Int) := by omega
          have hjn : ((k : Int) - 1).toNat = k - 1 := by omega
          obtain ⟨b', off', hA, _, y0, y1, y2⟩ := (HR.out.below HB.out).atW (show k - 1 < l.length by omega)
          injection hA with hA
          injection hA with hA1 hA2
          subst hA1 hA2
          obtain ⟨y, hy⟩ : ∃ y, l[k - 1] = y := ⟨_, rfl⟩
          rw [hy] at y0 y1 y2
          have HY := Lib.hid hy
          clear hy
          have HV : Hid _ := Lib.hid (okW_range HC.out (Sp.linked_ok HL.out y (by rw [← HY.out]; exact List.mem_take_iff_getElem.2 ⟨k - 1, by omega, rfl⟩)))
          by_cases hd : x.day ≤ y.day
          · have hdb : decide (x.day ≤ y.day) = true := decide_eq_true hd
            go_wp2_with fail
            refine wp_region_ext (by kernel_rfl) (by kernel_rfl) ?_
            repeat (go_big_quiet_step (first | (go_at_call 163; exact ext_call (weather_calls _ _ _)) | (go_at_call 164; exact ext_call (near_calls _ _ _ _ hs HV.out.2.1 HW.out.2.1 HV.out.1 HW.out.1))))
            refine wpQuiet_nil ?_
            rintro _ ⟨⟨W1, hb1⟩, rfl⟩
            go_wp2
            go_ret
            exact ⟨ret_bool (by symm; unfold linkedB; rw [decide_eq_false_iff_not]; intro h; have h2 := (Sp.linked_take_succ hlt).1 (Sp.linked_take h (k + 1)); have h3 := (h2.2.2 (by omega)).1; rw [HXk.out, HY.out] at h3; omega), bthen (bthen HB.out hb1) (Below.refl _ _)⟩
          · have hdb : decide (x.day ≤ y.day) = false := decide_eq_false hd
            cases hn : nearB c y x with
            | false =>
              go_wp2_with fail
              refine wp_region_ext (by kernel_rfl) (by kernel_rfl) ?_
              repeat (go_big_quiet_step (first | (go_at_call 163; exact ext_call (weather_calls _ _ _)) | (go_at_call 164; exact ext_call (near_calls _ _ _ _ hs HV.out.2.1 HW.out.2.1 HV.out.1 HW.out.1))))
              refine wpQuiet_nil ?_
              rintro _ ⟨⟨W1, hb1⟩, rfl⟩
              go_wp2
              go_ret
              exact ⟨ret_bool (by symm; unfold linkedB; rw [decide_eq_false_iff_not]; intro h; have h2 := (Sp.linked_take_succ hlt).1 (Sp.linked_take h (k + 1)); have h3 := (h2.2.2 (by omega)).2; rw [HXk.out, HY.out] at h3; exact (of_decide_eq_false hn) h3), bthen (bthen HB.out hb1) (Below.refl _ _)⟩
            | true =>
              have HN := Lib.hid (of_decide_eq_true hn)
              go_wp2_with fail
              refine wp_region_ext (by kernel_rfl) (by kernel_rfl) ?_
              repeat (go_big_quiet_step (first | (go_at_call 163; exact ext_call (weather_calls _ _ _)) | (go_at_call 164; exact ext_call (near_calls _ _ _ _ hs HV.out.2.1 HW.out.2.1 HV.out.1 HW.out.1))))
              refine wpQuiet_nil ?_
              rintro _ ⟨⟨W1, hb1⟩, rfl⟩
              go_wp2
              go_roundw
              case rel => exact ⟨k + 1, by omega, by go_num, Lib.hid ((Sp.linked_take_succ hlt).2 ⟨HL.out, by rw [HXk.out]; exact HWo.out, fun h => by rw [HXk.out, HY.out]; exact ⟨by omega, HN.out⟩⟩), Lib.hid (bthen HB.out hb1), Lib.hid (box_below HX.out hb1)⟩
              case measure => simp [intOf]; omega
    · go_wp2
      go_ret
      exact ⟨ret_bool (by symm; have h := HL.out; rw [List.take_of_length_le (by omega)] at h; exact decide_eq_true h), HB.out⟩
end Go.Proofs.YtnpggmdpokcakaaGreatDoor
