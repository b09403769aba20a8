/- Contracts of the reference: successive, sequence, CheckSpring. -/
import Derived.Test.YtnpggmdpokcakaaGreatDoorC2
namespace Go.Proofs.YtnpggmdpokcakaaGreatDoor
open Go.RowKit

def rsucB (l : List Sp.W) : Bool := decide (Suc l ∧ 1 ≤ l.length ∧ l.length ≤ 512)
theorem rsuc_no {l : List Sp.W} (h : ¬ Suc l) : false = rsucB l := by
  unfold rsucB; symm; rw [decide_eq_false_iff_not]; exact fun h2 => h h2.1
set_option maxRecDepth 100000 in
set_option maxHeartbeats 4000000 in
theorem successiveR_calls (A : Option Addr) (cap : Nat) (l : List Sp.W) (w : World) (hr : Rd lW 3 w A l) :
    Calls Tryz.prog 94 #[.slice A l.length cap] w fun e w' => e = .returned (.bool (rsucB l)) ∧ Below w.heap.size w w' := by
  have hlen := hr.1
  have HR := Lib.hid hr
  clear hr
  go_enter Tryz.func94, Tryz.ntmps94
  go_wp2_with fail
  go_loopw [3] (fun i wr => ∃ k : Nat, k ≤ l.length ∧ i = .int .i64 k ∧ Hid (∀ i (h : i < l.length), i < k → (0 ≤ l[i].day ∧ l[i].day ≤ 1048576) ∧ l[i].day = (l[0]'(by omega)).day + i) ∧ Hid (Below w.heap.size w wr)) (fun i _ => l.length - (intOf i).toNat)
  case atStart => exact ⟨0, Nat.zero_le _, rfl, Lib.hid (fun i _ h => absurd h (by omega)), Lib.hid (by repeat (first | exact Below.refl _ _ | refine balloc ?_ _ | refine bdrewN ?_ _ | refine bdrew ?_ | refine bthen ?_ (by assumption)))⟩
  case round =>
    obtain ⟨k, hk, rfl, HN, HB⟩ := hrel
    by_cases hlt : k < l.length
    · obtain ⟨b, off, hA, hbk, x0, x1, x2⟩ := (HR.out.below HB.out).atW hlt
      subst hA
      clear x1 x2
      obtain ⟨x, hx⟩ : ∃ x, l[k] = x := ⟨_, rfl⟩
      rw [hx] at x0
      have HX := Lib.hid hx
      clear hx
      have hi0 : (0 : Int) ≤ (k : Int) := by omega
      have hi1 : (k : Int) < (l.length : Int) := by omega
      have hext := Ext.cells wr
      cases hd : inB x.day 0 1048576 with
      | false =>
        go_wp2_with fail
        refine wp_region_ext (by kernel_rfl) (by kernel_rfl) ?_
        repeat (go_big_quiet_step ((go_at_call 89; exact ext_same (within_calls _ _ _ _))))
        refine wpQuiet_nil ?_
        rintro _ ⟨⟨W1, hb1⟩, rfl⟩
        go_wp2
        go_ret
        exact ⟨ret_bool (rsuc_no (fun h => by have h3 := (h k hlt).1; rw [HX.out] at h3; exact (of_decide_eq_false hd) h3)), bthen HB.out hb1⟩
      | true =>
        have HD := Lib.hid (of_decide_eq_true hd)
        by_cases hk0 : k = 0
        · have hgb : decide (0 < k) = false := decide_eq_false (by omega)
          have HK0 := Lib.hid hk0
          clear hk0
          go_wp2_with fail
          refine wp_region_ext (by kernel_rfl) (by kernel_rfl) ?_
          repeat (go_big_quiet_step ((go_at_call 89; exact ext_same (within_calls _ _ _ _))))
          refine wpQuiet_nil ?_
          rintro _ ⟨⟨W1, hb1⟩, rfl⟩
          go_wp2
          go_roundw
          case rel => exact ⟨k + 1, by omega, by go_num, Lib.hid (fun j hj hjk => by
            have hj0 : j = k := by have := HK0.out; omega
            subst hj0
            have hz := HK0.out
            subst hz
            exact ⟨by rw [HX.out]; exact HD.out, by simp⟩), Lib.hid (bthen HB.out hb1)⟩
          case measure => simp [intOf]; omega
        · have hgt : (0 : Int) < (k : Int) := by omega
          have hgb : decide (0 < k) = true := decide_eq_true (by omega)
          have hj0 : (0 : Int) ≤ (k : Int) - 1 := by omega
          have hj1 : (k : Int) - 1 < (l.length : Int) := by omega
          have hjn : ((k : Int) - 1).toNat = k - 1 := by omega
          obtain ⟨b', off', hA, _, y0, y1, y2⟩ := (HR.out.below HB.out).atW (show k - 1 < l.length by omega)
          injection hA with hA
          injection hA with hA1 hA2
          subst hA1 hA2
          clear y1 y2
          obtain ⟨y, hy⟩ : ∃ y, l[k - 1] = y := ⟨_, rfl⟩
          rw [hy] at y0
          have HY := Lib.hid hy
          clear hy
          have HYD := Lib.hid (HN.out (k - 1) (by omega) (by omega))
          have hyd : 0 ≤ y.day ∧ y.day ≤ 1048576 := by rw [← HY.out]; exact HYD.out.1
          have hs : IntKind.i64.wrap (y.day + 1) = y.day + 1 := IntWalk.i64_in _ (by omega)
          by_cases he : y.day + 1 = x.day
          · have heb : (y.day + 1 != x.day) = false := by rw [bne_eq_false_iff_eq]; exact he
            have HE := Lib.hid he
            clear he
            go_wp2_with fail
            refine wp_region_ext (by kernel_rfl) (by kernel_rfl) ?_
            repeat (go_big_quiet_step ((go_at_call 89; exact ext_same (within_calls _ _ _ _))))
            refine wpQuiet_nil ?_
            rintro _ ⟨⟨W1, hb1⟩, rfl⟩
            go_wp2
            go_roundw
            case rel => exact ⟨k + 1, by omega, by go_num, Lib.hid (fun j hj hjk => by
              by_cases e : j = k
              · subst e
                have h1 := HYD.out.2
                rw [HY.out] at h1
                have h2 := HE.out
                exact ⟨by rw [HX.out]; exact HD.out, by rw [HX.out]; omega⟩
              · exact HN.out j hj (by omega)), Lib.hid (bthen HB.out hb1)⟩
            case measure => simp [intOf]; omega
          · have heb : (y.day + 1 != x.day) = true := by rw [bne_iff_ne]; exact he
            have HE := Lib.hid he
            clear he
            go_wp2_with fail
            refine wp_region_ext (by kernel_rfl) (by kernel_rfl) ?_
            repeat (go_big_quiet_step ((go_at_call 89; exact ext_same (within_calls _ _ _ _))))
            refine wpQuiet_nil ?_
            rintro _ ⟨⟨W1, hb1⟩, rfl⟩
            go_wp2
            go_ret
            exact ⟨ret_bool (rsuc_no (fun h => by have h3 := (h k hlt).2; have h4 := (h (k - 1) (by omega)).2; rw [HX.out] at h3; rw [HY.out] at h4; exact HE.out (by omega))), bthen HB.out hb1⟩
    · have hS : Suc l := fun i hi => HN.out i hi (by omega)
      have HS := Lib.hid hS
      clear hS
      by_cases h1 : 1 ≤ l.length
      · have hg1 : (1 : Int) ≤ (l.length : Int) := by omega
        have hg1b : decide (1 ≤ l.length) = true := decide_eq_true h1
        by_cases h2 : l.length ≤ 512
        · have hg2 : (l.length : Int) ≤ 512 := by omega
          have hg2b : decide (l.length ≤ 512) = true := decide_eq_true h2
          go_wp2
          go_ret
          exact ⟨ret_bool (by unfold rsucB; symm; rw [decide_eq_true_iff]; exact ⟨HS.out, h1, h2⟩), HB.out⟩
        · have hg2 : ¬ (l.length : Int) ≤ 512 := by omega
          have hg2b : decide (l.length ≤ 512) = false := decide_eq_false h2
          go_wp2
          go_ret
          exact ⟨ret_bool (by unfold rsucB; symm; rw [decide_eq_false_iff_not]; exact fun h => h2 h.2.2), HB.out⟩
      · have hg1 : ¬ (1 : Int) ≤ (l.length : Int) := by omega
        have hg1b : decide (1 ≤ l.length) = false := decide_eq_false h1
        go_wp2
        go_ret
        exact ⟨ret_bool (by unfold rsucB; symm; rw [decide_eq_false_iff_not]; exact fun h => h1 h.2.1), HB.out⟩

end Go.Proofs.YtnpggmdpokcakaaGreatDoor
