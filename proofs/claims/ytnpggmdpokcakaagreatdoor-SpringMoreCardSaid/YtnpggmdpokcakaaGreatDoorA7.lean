/- Contracts of package spring: logs, springs and stretches of days. -/
import Derived.Test.YtnpggmdpokcakaaGreatDoorA6
namespace Go.Proofs.YtnpggmdpokcakaaGreatDoor
open Go.RowKit

/-- The days are valid, and follow each other. -/
def Suc (l : List Sp.W) : Prop := ∀ i (h : i < l.length), (0 ≤ l[i].day ∧ l[i].day ≤ 1048576) ∧ l[i].day = (l[0]'(by omega)).day + i
instance (l : List Sp.W) : Decidable (Suc l) := inferInstanceAs (Decidable (∀ i (h : i < l.length), (0 ≤ l[i].day ∧ l[i].day ≤ 1048576) ∧ l[i].day = (l[0]'(by omega)).day + i))
def sucB (l : List Sp.W) : Bool := decide (Suc l)
theorem sucB_iff (l : List Sp.W) : sucB l = true ↔ Suc l := by unfold sucB; exact decide_eq_true_iff
theorem suc_yes {l : List Sp.W} (h : Suc l) : true = sucB l := ((sucB_iff l).2 h).symm
theorem suc_no {l : List Sp.W} (h : ¬ Suc l) : false = sucB l := by
  cases hb : sucB l with
  | false => rfl
  | true => exact absurd ((sucB_iff l).1 hb) h
set_option maxRecDepth 100000 in
set_option maxHeartbeats 4000000 in
theorem successive_calls (A : Option Addr) (cap : Nat) (l : List Sp.W) (w : World) (hr : Rd lW 3 w A l) :
    Calls Tryz.prog 93 #[.slice A l.length cap] w fun e w' => e = .returned (.bool (sucB l)) ∧ Below w.heap.size w w' := by
  have hlen := hr.1
  have HR := Lib.hid hr
  clear hr
  go_enter Tryz.func93, Tryz.ntmps93
  go_wp2_with fail
  go_loopw [6] (fun i wr => ∃ k : Nat, k ≤ l.length ∧ i = .int .i64 k ∧ Hid (∀ i (h : i < l.length), i < k → (0 ≤ l[i].day ∧ l[i].day ≤ 1048576) ∧ l[i].day = (l[0]'(by omega)).day + i) ∧ Hid (Below w.heap.size w wr)) (fun i _ => l.length - (intOf i).toNat)
  case atStart => exact ⟨0, Nat.zero_le _, rfl, Lib.hid (fun i _ h => absurd h (by omega)), Lib.hid (by repeat (first | exact Below.refl _ _ | refine balloc ?_ _ | refine bdrewN ?_ _ | refine bdrew ?_ | refine bthen ?_ (by assumption)))⟩
  case round =>
    obtain ⟨k, hk, rfl, HN, HB⟩ := hrel
    by_cases hlt : k < l.length
    · obtain ⟨b, off, hA, hbk, x0, x1, x2⟩ := (HR.out.below HB.out).atW hlt
      obtain ⟨b', off', hA', _, z0, z1, z2⟩ := (HR.out.below HB.out).atW (show 0 < l.length by omega)
      subst hA
      injection hA' with hA'
      injection hA' with h1 h2
      subst h1 h2
      clear x1 x2 z1 z2
      obtain ⟨x, hx⟩ : ∃ x, l[k] = x := ⟨_, rfl⟩
      obtain ⟨z, hz⟩ : ∃ z, l[0]'(by omega) = z := ⟨_, rfl⟩
      rw [hx] at x0
      rw [hz] at z0
      simp only [Nat.zero_mul, Nat.add_zero] at z0
      have HX := Lib.hid hx
      have HZ := Lib.hid hz
      have h0k : k = 0 → x = z := fun h => by subst h; exact HX.out.symm.trans HZ.out
      have HK := Lib.hid h0k
      clear hx hz h0k
      have hi0 : (0 : Int) ≤ (k : Int) := by omega
      have hi1 : (k : Int) < (l.length : Int) := by omega
      have hi2 : 0 < l.length := by omega
      have hi3 : (0 : Int) < (l.length : Int) := by omega
      have hext := Ext.cells wr
      cases hd : inB x.day 0 1048576 with
      | false =>
        go_wp2_with fail
        refine wp_region_ext (by kernel_rfl) (by kernel_rfl) ?_
        repeat (go_big_quiet_step ((go_at_call 107; exact ext_same (day_calls _ _))))
        refine wpQuiet_nil ?_
        rintro _ ⟨⟨W1, hb1⟩, rfl⟩
        go_wp2
        go_ret
        exact ⟨ret_bool (suc_no (fun h => by have h3 := (h k hlt).1; rw [HX.out] at h3; exact (of_decide_eq_false hd) h3)), bthen HB.out hb1⟩
      | true =>
        have HD := Lib.hid (of_decide_eq_true hd)
        have hzd : 0 ≤ z.day ∧ z.day ≤ 1048576 := by
          by_cases h : k = 0
          · rw [← HK.out h]; exact HD.out
          · have := (HN.out 0 (by omega) (by omega)).1; rw [HZ.out] at this; exact this
        have hs : IntKind.i64.wrap (z.day + (k : Int)) = z.day + (k : Int) := IntWalk.i64_in _ (by omega)
        by_cases he : x.day = z.day + k
        · have heb : (x.day != z.day + (k : Int)) = false := by rw [bne_eq_false_iff_eq]; exact he
          have HE := Lib.hid he
          clear he
          go_wp2_with fail
          refine wp_region_ext (by kernel_rfl) (by kernel_rfl) ?_
          repeat (go_big_quiet_step ((go_at_call 107; exact ext_same (day_calls _ _))))
          refine wpQuiet_nil ?_
          rintro _ ⟨⟨W1, hb1⟩, rfl⟩
          go_wp2
          go_roundw
          case rel => exact ⟨k + 1, by omega, by go_num, Lib.hid (fun j hj hjk => by
            by_cases e : j = k
            · subst e; exact ⟨by rw [HX.out]; exact HD.out, by rw [HX.out, HZ.out]; exact HE.out⟩
            · exact HN.out j hj (by omega)), Lib.hid (bthen HB.out hb1)⟩
          case measure => simp [intOf]; omega
        · have heb : (x.day != z.day + (k : Int)) = true := by rw [bne_iff_ne]; exact he
          have HE := Lib.hid he
          clear he
          go_wp2_with fail
          refine wp_region_ext (by kernel_rfl) (by kernel_rfl) ?_
          repeat (go_big_quiet_step ((go_at_call 107; exact ext_same (day_calls _ _))))
          refine wpQuiet_nil ?_
          rintro _ ⟨⟨W1, hb1⟩, rfl⟩
          go_wp2
          go_ret
          exact ⟨ret_bool (suc_no (fun h => by have h3 := (h k hlt).2; rw [HX.out, HZ.out] at h3; exact HE.out h3)), bthen HB.out hb1⟩
    · go_wp2
      go_ret
      exact ⟨ret_bool (suc_yes (fun i hi => HN.out i hi (by omega))), HB.out⟩

end Go.Proofs.YtnpggmdpokcakaaGreatDoor
