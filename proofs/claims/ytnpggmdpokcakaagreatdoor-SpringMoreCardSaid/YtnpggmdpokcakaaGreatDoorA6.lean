/- Contracts of package spring: Snow, Melt, logs and springs. -/
import Derived.Test.YtnpggmdpokcakaaGreatDoorA5
namespace Go.Proofs.YtnpggmdpokcakaaGreatDoor
open Go.RowKit

theorem okWB_yes {c : Sp.Cl} {x : Sp.W} (h : Sp.okW c x) : okWB c x = true := decide_eq_true h
theorem okWB_no {c : Sp.Cl} {x : Sp.W} (h : ¬ Sp.okW c x) : okWB c x = false := decide_eq_false h
set_option maxHeartbeats 1000000 in
theorem day1_noC (c : Sp.Cl) (x : Sp.W) (A : Option Addr) (cap : Nat) (l : List Bool) (w : World) (_hr : Rd lB 1 w A l) (hc : ¬ Sp.okCl c) :
    Calls Tryz.prog 101 #[vC c, vW x, .slice A l.length cap] w fun e w' => e = .returned (.int .i64 61) ∧ Below w.heap.size w w' := by
  simp only [vC, vW]
  have HC := Lib.hid hc
  clear hc
  go_enter Tryz.func101, Tryz.ntmps101
  go_wp2_with (go_at_call 23; refine (CheckClimate_no c _ HC.out).mono ?_; rintro e hb1W ⟨rfl, hb1⟩; have hb1c := (bcell hb1).1)
  go_ret
  exact ⟨rfl, (by repeat (first | exact Below.refl _ _ | refine balloc ?_ _ | refine bdrewN ?_ _ | refine bdrew ?_ | refine bthen ?_ (by assumption)))⟩
set_option maxHeartbeats 1000000 in
theorem day1_noW (c : Sp.Cl) (x : Sp.W) (A : Option Addr) (cap : Nat) (l : List Bool) (w : World) (_hr : Rd lB 1 w A l) (hc : Sp.okCl c) (hx : ¬ Sp.okW c x) :
    Calls Tryz.prog 101 #[vC c, vW x, .slice A l.length cap] w fun e w' => e = .returned (.int .i64 60) ∧ Below w.heap.size w w' := by
  simp only [vC, vW]
  have HC := Lib.hid hc
  have hw := okWB_no hx
  clear hc hx
  go_enter Tryz.func101, Tryz.ntmps101
  go_wp2_with (first | (go_at_call 23; refine (CheckClimate_ok c _ HC.out).mono ?_; rintro e hb1W ⟨rfl, hb1⟩; have hb1c := (bcell hb1).1; have hb1z0 : w.heap.size < hb1W.heap.size := (by have hz_ := hb1.size; (try simp at hz_); omega); have hb1z1 : w.heap.size + 1 < hb1W.heap.size := (by have hz_ := hb1.size; (try simp at hz_); omega)) | (go_at_call 163; refine (weather_calls c x _).mono ?_; rintro e hb2W ⟨rfl, hb2⟩; have hb2c := (bcell hb2).1))
  go_ret
  exact ⟨rfl, (by repeat (first | exact Below.refl _ _ | refine balloc ?_ _ | refine bdrewN ?_ _ | refine bdrew ?_ | refine bthen ?_ (by assumption)))⟩
set_option maxHeartbeats 1000000 in
theorem day1_yes (c : Sp.Cl) (x : Sp.W) (A : Option Addr) (cap : Nat) (l : List Bool) (w : World) (hr : Rd lB 1 w A l) (hc : Sp.okCl c) (hx : Sp.okW c x) (hf : falseIn l = false) :
    Calls Tryz.prog 101 #[vC c, vW x, .slice A l.length cap] w fun e w' => e = .returned (.int .i64 0) ∧ Below w.heap.size w w' := by
  simp only [vC, vW]
  have HC := Lib.hid hc
  have HR := Lib.hid hr
  have HF := Lib.hid hf
  have hw := okWB_yes hx
  clear hc hx hr hf
  go_enter Tryz.func101, Tryz.ntmps101
  go_wp2_with (first | (go_at_call 23; refine (CheckClimate_ok c _ HC.out).mono ?_; rintro e hb1W ⟨rfl, hb1⟩; have hb1c := (bcell hb1).1; have hb1z0 : w.heap.size < hb1W.heap.size := (by have hz_ := hb1.size; (try simp at hz_); omega); have hb1z1 : w.heap.size + 1 < hb1W.heap.size := (by have hz_ := hb1.size; (try simp at hz_); omega)) | (go_at_call 163; refine (weather_calls c x _).mono ?_; rintro e hb2W ⟨rfl, hb2⟩; have hb2c := (bcell hb2).1; have hb2z0 : w.heap.size < hb2W.heap.size := (by have hz_ := hb2.size; (try simp at hz_); omega); have hb2z1 : w.heap.size + 1 < hb2W.heap.size := (by have hz_ := hb2.size; (try simp at hz_); omega)) | (go_at_call 96; refine (asked_yes c _ _ l _ (by exact HR.out.below (by repeat (first | exact Below.refl _ _ | refine balloc ?_ _ | refine bdrewN ?_ _ | refine bdrew ?_ | refine bthen ?_ (by assumption)))) HC.out HF.out).mono ?_; rintro e hb3W ⟨rfl, hb3⟩; have hb3c := (bcell hb3).1))
  go_ret
  exact ⟨rfl, (by repeat (first | exact Below.refl _ _ | refine balloc ?_ _ | refine bdrewN ?_ _ | refine bdrew ?_ | refine bthen ?_ (by assumption)))⟩
set_option maxHeartbeats 1000000 in
theorem day1_bad (c : Sp.Cl) (x : Sp.W) (A : Option Addr) (cap : Nat) (l : List Bool) (w : World) (hr : Rd lB 1 w A l) (hc : Sp.okCl c) (hx : Sp.okW c x) (hf : falseIn l = true) :
    Calls Tryz.prog 101 #[vC c, vW x, .slice A l.length cap] w fun e w' => e = .returned (.int .i64 1) ∧ Below w.heap.size w w' := by
  simp only [vC, vW]
  have HC := Lib.hid hc
  have HR := Lib.hid hr
  have HF := Lib.hid hf
  have hw := okWB_yes hx
  clear hc hx hr hf
  go_enter Tryz.func101, Tryz.ntmps101
  go_wp2_with (first | (go_at_call 23; refine (CheckClimate_ok c _ HC.out).mono ?_; rintro e hb1W ⟨rfl, hb1⟩; have hb1c := (bcell hb1).1; have hb1z0 : w.heap.size < hb1W.heap.size := (by have hz_ := hb1.size; (try simp at hz_); omega); have hb1z1 : w.heap.size + 1 < hb1W.heap.size := (by have hz_ := hb1.size; (try simp at hz_); omega)) | (go_at_call 163; refine (weather_calls c x _).mono ?_; rintro e hb2W ⟨rfl, hb2⟩; have hb2c := (bcell hb2).1; have hb2z0 : w.heap.size < hb2W.heap.size := (by have hz_ := hb2.size; (try simp at hz_); omega); have hb2z1 : w.heap.size + 1 < hb2W.heap.size := (by have hz_ := hb2.size; (try simp at hz_); omega)) | (go_at_call 96; refine (asked_bad c _ _ l _ (by exact HR.out.below (by repeat (first | exact Below.refl _ _ | refine balloc ?_ _ | refine bdrewN ?_ _ | refine bdrew ?_ | refine bthen ?_ (by assumption)))) HC.out HF.out).mono ?_; rintro e hb3W ⟨rfl, hb3⟩; have hb3c := (bcell hb3).1))
  go_ret
  exact ⟨rfl, (by repeat (first | exact Below.refl _ _ | refine balloc ?_ _ | refine bdrewN ?_ _ | refine bdrew ?_ | refine bthen ?_ (by assumption)))⟩
set_option maxHeartbeats 4000000 in
theorem Snow_calls (c : Sp.Cl) (x : Sp.W) (h : Int) (w : World) :
    Calls Tryz.prog 33 #[vC c, vW x, .int .i64 h] w fun e w' => e = .returned (if Sp.okCl c then if Sp.okW c x then if 0 ≤ h ∧ h ≤ 9000 then .tuple #[.int .i64 (Sp.snow c x h), .int .i64 (Sp.wetn c x h), .int .i64 0] else .tuple #[.int .i64 0, .int .i64 0, .int .i64 1] else .tuple #[.int .i64 0, .int .i64 0, .int .i64 60] else .tuple #[.int .i64 0, .int .i64 0, .int .i64 61]) ∧ Below w.heap.size w w' := by
  simp only [vC, vW]
  by_cases hc : Sp.okCl c
  · rw [if_pos hc]
    by_cases hx : Sp.okW c x
    · rw [if_pos hx]
      have HW := Lib.hid (okW_range hc hx)
      by_cases hp : 0 ≤ h ∧ h ≤ 9000
      · rw [if_pos hp]
        have HP := Lib.hid hp
        have HX := Lib.hid hx
        have HC := Lib.hid hc
        have b1 : inB h 0 9000 = true := decide_eq_true hp
        clear hp hx hc
        go_enter Tryz.func33, Tryz.ntmps33
        go_wp2_with fail
        go_region_held3 (fun W => Below ((w.alloc (.cells (cC c) 25)).alloc (.cells #[.int .i64 x.day, .int .i64 x.temp, .int .i64 x.rain] 36)).heap.size ((w.alloc (.cells (cC c) 25)).alloc (.cells #[.int .i64 x.day, .int .i64 x.temp, .int .i64 x.rain] 36)) W ∧ ∀ b o, b < ((w.alloc (.cells (cC c) 25)).alloc (.cells #[.int .i64 x.day, .int .i64 x.temp, .int .i64 x.rain] 36)).heap.size → W.cell? ⟨b, o, none⟩ = ((w.alloc (.cells (cC c) 25)).alloc (.cells #[.int .i64 x.day, .int .i64 x.temp, .int .i64 x.rain] 36)).cell? ⟨b, o, none⟩) (first | assumption | exact keepSd (keepS0 _) | exact keepSa _ (by assumption) | exact keepS (by assumption) hb1)
          (first | (go_at_call 97; refine (temp_calls _ _).mono ?_; rintro e w' ⟨rfl, rfl⟩) | (go_at_call 98; refine (height_calls _ _).mono ?_; rintro e w' ⟨rfl, rfl⟩) | (go_at_call 88; refine (in_calls _ _ _ _).mono ?_; rintro e w' ⟨rfl, rfl⟩) | (go_at_call 101; refine (day1_yes c x _ _ [true] _ (by first | exact (rdB1 (by simp) _ _).drew | exact rdB1 (by simp) _ _) HC.out HX.out rfl).mono ?_; rintro e w' ⟨rfl, hb1⟩))
        go_wp2_with (go_at_call 102; refine (fall_calls c x h _ HC.out HW.out.2.1 HP.out).mono ?_; rintro e hb2W ⟨rfl, hb2⟩; have hb2c := (bcell hb2).1)
        go_ret3
        exact ⟨rfl, (by repeat (first | exact Below.refl _ _ | refine balloc ?_ _ | refine bdrewN ?_ _ | refine bdrew ?_ | refine bthen ?_ (by assumption)))⟩
      · rw [if_neg hp]
        have HX := Lib.hid hx
        have HC := Lib.hid hc
        have b1 : inB h 0 9000 = false := decide_eq_false hp
        clear hp hx hc
        go_enter Tryz.func33, Tryz.ntmps33
        go_wp2_with fail
        go_region_held3 (fun W => Below ((w.alloc (.cells (cC c) 25)).alloc (.cells #[.int .i64 x.day, .int .i64 x.temp, .int .i64 x.rain] 36)).heap.size ((w.alloc (.cells (cC c) 25)).alloc (.cells #[.int .i64 x.day, .int .i64 x.temp, .int .i64 x.rain] 36)) W ∧ ∀ b o, b < ((w.alloc (.cells (cC c) 25)).alloc (.cells #[.int .i64 x.day, .int .i64 x.temp, .int .i64 x.rain] 36)).heap.size → W.cell? ⟨b, o, none⟩ = ((w.alloc (.cells (cC c) 25)).alloc (.cells #[.int .i64 x.day, .int .i64 x.temp, .int .i64 x.rain] 36)).cell? ⟨b, o, none⟩) (first | assumption | exact keepSd (keepS0 _) | exact keepSa _ (by assumption) | exact keepS (by assumption) hb1)
          (first | (go_at_call 97; refine (temp_calls _ _).mono ?_; rintro e w' ⟨rfl, rfl⟩) | (go_at_call 98; refine (height_calls _ _).mono ?_; rintro e w' ⟨rfl, rfl⟩) | (go_at_call 88; refine (in_calls _ _ _ _).mono ?_; rintro e w' ⟨rfl, rfl⟩) | (go_at_call 101; refine (day1_bad c x _ _ [false] _ (by first | exact (rdB1 (by simp) _ _).drew | exact rdB1 (by simp) _ _) HC.out HX.out rfl).mono ?_; rintro e w' ⟨rfl, hb1⟩))
        go_wp2
        go_ret3
        exact ⟨rfl, (by repeat (first | exact Below.refl _ _ | refine balloc ?_ _ | refine bdrewN ?_ _ | refine bdrew ?_ | refine bthen ?_ (by assumption)))⟩
    · rw [if_neg hx]
      have HX := Lib.hid hx
      have HC := Lib.hid hc
      obtain ⟨u, hu⟩ : ∃ u, inB h 0 9000 = u := ⟨_, rfl⟩
      clear hx hc
      go_enter Tryz.func33, Tryz.ntmps33
      go_wp2_with fail
      go_region_held3 (fun W => Below ((w.alloc (.cells (cC c) 25)).alloc (.cells #[.int .i64 x.day, .int .i64 x.temp, .int .i64 x.rain] 36)).heap.size ((w.alloc (.cells (cC c) 25)).alloc (.cells #[.int .i64 x.day, .int .i64 x.temp, .int .i64 x.rain] 36)) W ∧ ∀ b o, b < ((w.alloc (.cells (cC c) 25)).alloc (.cells #[.int .i64 x.day, .int .i64 x.temp, .int .i64 x.rain] 36)).heap.size → W.cell? ⟨b, o, none⟩ = ((w.alloc (.cells (cC c) 25)).alloc (.cells #[.int .i64 x.day, .int .i64 x.temp, .int .i64 x.rain] 36)).cell? ⟨b, o, none⟩) (first | assumption | exact keepSd (keepS0 _) | exact keepSa _ (by assumption) | exact keepS (by assumption) hb1)
        (first | (go_at_call 97; refine (temp_calls _ _).mono ?_; rintro e w' ⟨rfl, rfl⟩) | (go_at_call 98; refine (height_calls _ _).mono ?_; rintro e w' ⟨rfl, rfl⟩) | (go_at_call 88; refine (in_calls _ _ _ _).mono ?_; rintro e w' ⟨rfl, rfl⟩) | (go_at_call 101; refine (day1_noW c x _ _ [u] _ (by first | exact (rdB1 (by simp) _ _).drew | exact rdB1 (by simp) _ _) HC.out HX.out).mono ?_; rintro e w' ⟨rfl, hb1⟩))
      go_wp2
      go_ret3
      exact ⟨rfl, (by repeat (first | exact Below.refl _ _ | refine balloc ?_ _ | refine bdrewN ?_ _ | refine bdrew ?_ | refine bthen ?_ (by assumption)))⟩
  · rw [if_neg hc]
    have HC := Lib.hid hc
    obtain ⟨u, hu⟩ : ∃ u, inB h 0 9000 = u := ⟨_, rfl⟩
    clear hc
    go_enter Tryz.func33, Tryz.ntmps33
    go_wp2_with fail
    go_region_held3 (fun W => Below ((w.alloc (.cells (cC c) 25)).alloc (.cells #[.int .i64 x.day, .int .i64 x.temp, .int .i64 x.rain] 36)).heap.size ((w.alloc (.cells (cC c) 25)).alloc (.cells #[.int .i64 x.day, .int .i64 x.temp, .int .i64 x.rain] 36)) W ∧ ∀ b o, b < ((w.alloc (.cells (cC c) 25)).alloc (.cells #[.int .i64 x.day, .int .i64 x.temp, .int .i64 x.rain] 36)).heap.size → W.cell? ⟨b, o, none⟩ = ((w.alloc (.cells (cC c) 25)).alloc (.cells #[.int .i64 x.day, .int .i64 x.temp, .int .i64 x.rain] 36)).cell? ⟨b, o, none⟩) (first | assumption | exact keepSd (keepS0 _) | exact keepSa _ (by assumption) | exact keepS (by assumption) hb1)
      (first | (go_at_call 97; refine (temp_calls _ _).mono ?_; rintro e w' ⟨rfl, rfl⟩) | (go_at_call 98; refine (height_calls _ _).mono ?_; rintro e w' ⟨rfl, rfl⟩) | (go_at_call 88; refine (in_calls _ _ _ _).mono ?_; rintro e w' ⟨rfl, rfl⟩) | (go_at_call 101; refine (day1_noC c x _ _ [u] _ (by first | exact (rdB1 (by simp) _ _).drew | exact rdB1 (by simp) _ _) HC.out).mono ?_; rintro e w' ⟨rfl, hb1⟩))
    go_wp2
    go_ret3
    exact ⟨rfl, (by repeat (first | exact Below.refl _ _ | refine balloc ?_ _ | refine bdrewN ?_ _ | refine bdrew ?_ | refine bthen ?_ (by assumption)))⟩
set_option maxHeartbeats 4000000 in
theorem Melt_calls (c : Sp.Cl) (x : Sp.W) (h f : Int) (w : World) :
    Calls Tryz.prog 35 #[vC c, vW x, .int .i64 h, .int .i64 f] w fun e w' => e = .returned (if Sp.okCl c then if Sp.okW c x then if (0 ≤ h ∧ h ≤ 9000) ∧ 0 ≤ f ∧ f ≤ 2000 then .tuple #[.int .i64 (Sp.melt c x h f), .int .i64 0] else .tuple #[.int .i64 0, .int .i64 1] else .tuple #[.int .i64 0, .int .i64 60] else .tuple #[.int .i64 0, .int .i64 61]) ∧ Below w.heap.size w w' := by
  simp only [vC, vW]
  by_cases hc : Sp.okCl c
  · rw [if_pos hc]
    by_cases hx : Sp.okW c x
    · rw [if_pos hx]
      have HW := Lib.hid (okW_range hc hx)
      by_cases hp : (0 ≤ h ∧ h ≤ 9000) ∧ 0 ≤ f ∧ f ≤ 2000
      · rw [if_pos hp]
        have HP := Lib.hid hp
        have HX := Lib.hid hx
        have HC := Lib.hid hc
        have b1 : inB h 0 9000 = true := decide_eq_true hp.1
        have b2 : inB f 0 2000 = true := decide_eq_true hp.2
        clear hp hx hc
        go_enter Tryz.func35, Tryz.ntmps35
        go_wp2_with fail
        go_region_held3 (fun W => Below ((w.alloc (.cells (cC c) 25)).alloc (.cells #[.int .i64 x.day, .int .i64 x.temp, .int .i64 x.rain] 36)).heap.size ((w.alloc (.cells (cC c) 25)).alloc (.cells #[.int .i64 x.day, .int .i64 x.temp, .int .i64 x.rain] 36)) W ∧ ∀ b o, b < ((w.alloc (.cells (cC c) 25)).alloc (.cells #[.int .i64 x.day, .int .i64 x.temp, .int .i64 x.rain] 36)).heap.size → W.cell? ⟨b, o, none⟩ = ((w.alloc (.cells (cC c) 25)).alloc (.cells #[.int .i64 x.day, .int .i64 x.temp, .int .i64 x.rain] 36)).cell? ⟨b, o, none⟩) (first | assumption | exact keepSd (keepS0 _) | exact keepSa _ (by assumption) | exact keepS (by assumption) hb1)
          (first | (go_at_call 97; refine (temp_calls _ _).mono ?_; rintro e w' ⟨rfl, rfl⟩) | (go_at_call 98; refine (height_calls _ _).mono ?_; rintro e w' ⟨rfl, rfl⟩) | (go_at_call 88; refine (in_calls _ _ _ _).mono ?_; rintro e w' ⟨rfl, rfl⟩) | (go_at_call 101; refine (day1_yes c x _ _ [true, true] _ (by first | exact (rdB2 (by simp) _ _ _).drew | exact rdB2 (by simp) _ _ _) HC.out HX.out rfl).mono ?_; rintro e w' ⟨rfl, hb1⟩))
        go_wp2_with (go_at_call 104; refine (melt_calls c x h f _ HC.out HW.out.2.1 HP.out.1 HP.out.2).mono ?_; rintro e hb2W ⟨rfl, hb2⟩; have hb2c := (bcell hb2).1)
        go_ret2
        exact ⟨rfl, (by repeat (first | exact Below.refl _ _ | refine balloc ?_ _ | refine bdrewN ?_ _ | refine bdrew ?_ | refine bthen ?_ (by assumption)))⟩
      · rw [if_neg hp]
        have HX := Lib.hid hx
        have HC := Lib.hid hc
        have hq : (inB h 0 9000 && inB f 0 2000) = false := by rw [← Bool.not_eq_true]; intro hh; rw [Bool.and_eq_true] at hh; exact hp ⟨of_decide_eq_true hh.1, of_decide_eq_true hh.2⟩
        obtain ⟨u, hu⟩ : ∃ u, inB h 0 9000 = u := ⟨_, rfl⟩
        obtain ⟨v, hv⟩ : ∃ v, inB f 0 2000 = v := ⟨_, rfl⟩
        rw [hu, hv] at hq
        have HF := Lib.hid (and_falseIn hq)
        clear hq
        clear hp hx hc
        go_enter Tryz.func35, Tryz.ntmps35
        go_wp2_with fail
        go_region_held3 (fun W => Below ((w.alloc (.cells (cC c) 25)).alloc (.cells #[.int .i64 x.day, .int .i64 x.temp, .int .i64 x.rain] 36)).heap.size ((w.alloc (.cells (cC c) 25)).alloc (.cells #[.int .i64 x.day, .int .i64 x.temp, .int .i64 x.rain] 36)) W ∧ ∀ b o, b < ((w.alloc (.cells (cC c) 25)).alloc (.cells #[.int .i64 x.day, .int .i64 x.temp, .int .i64 x.rain] 36)).heap.size → W.cell? ⟨b, o, none⟩ = ((w.alloc (.cells (cC c) 25)).alloc (.cells #[.int .i64 x.day, .int .i64 x.temp, .int .i64 x.rain] 36)).cell? ⟨b, o, none⟩) (first | assumption | exact keepSd (keepS0 _) | exact keepSa _ (by assumption) | exact keepS (by assumption) hb1)
          (first | (go_at_call 97; refine (temp_calls _ _).mono ?_; rintro e w' ⟨rfl, rfl⟩) | (go_at_call 98; refine (height_calls _ _).mono ?_; rintro e w' ⟨rfl, rfl⟩) | (go_at_call 88; refine (in_calls _ _ _ _).mono ?_; rintro e w' ⟨rfl, rfl⟩) | (go_at_call 101; refine (day1_bad c x _ _ [u, v] _ (by first | exact (rdB2 (by simp) _ _ _).drew | exact rdB2 (by simp) _ _ _) HC.out HX.out HF.out).mono ?_; rintro e w' ⟨rfl, hb1⟩))
        go_wp2
        go_ret2
        exact ⟨rfl, (by repeat (first | exact Below.refl _ _ | refine balloc ?_ _ | refine bdrewN ?_ _ | refine bdrew ?_ | refine bthen ?_ (by assumption)))⟩
    · rw [if_neg hx]
      have HX := Lib.hid hx
      have HC := Lib.hid hc
      obtain ⟨u, hu⟩ : ∃ u, inB h 0 9000 = u := ⟨_, rfl⟩
      obtain ⟨v, hv⟩ : ∃ v, inB f 0 2000 = v := ⟨_, rfl⟩
      clear hx hc
      go_enter Tryz.func35, Tryz.ntmps35
      go_wp2_with fail
      go_region_held3 (fun W => Below ((w.alloc (.cells (cC c) 25)).alloc (.cells #[.int .i64 x.day, .int .i64 x.temp, .int .i64 x.rain] 36)).heap.size ((w.alloc (.cells (cC c) 25)).alloc (.cells #[.int .i64 x.day, .int .i64 x.temp, .int .i64 x.rain] 36)) W ∧ ∀ b o, b < ((w.alloc (.cells (cC c) 25)).alloc (.cells #[.int .i64 x.day, .int .i64 x.temp, .int .i64 x.rain] 36)).heap.size → W.cell? ⟨b, o, none⟩ = ((w.alloc (.cells (cC c) 25)).alloc (.cells #[.int .i64 x.day, .int .i64 x.temp, .int .i64 x.rain] 36)).cell? ⟨b, o, none⟩) (first | assumption | exact keepSd (keepS0 _) | exact keepSa _ (by assumption) | exact keepS (by assumption) hb1)
        (first | (go_at_call 97; refine (temp_calls _ _).mono ?_; rintro e w' ⟨rfl, rfl⟩) | (go_at_call 98; refine (height_calls _ _).mono ?_; rintro e w' ⟨rfl, rfl⟩) | (go_at_call 88; refine (in_calls _ _ _ _).mono ?_; rintro e w' ⟨rfl, rfl⟩) | (go_at_call 101; refine (day1_noW c x _ _ [u, v] _ (by first | exact (rdB2 (by simp) _ _ _).drew | exact rdB2 (by simp) _ _ _) HC.out HX.out).mono ?_; rintro e w' ⟨rfl, hb1⟩))
      go_wp2
      go_ret2
      exact ⟨rfl, (by repeat (first | exact Below.refl _ _ | refine balloc ?_ _ | refine bdrewN ?_ _ | refine bdrew ?_ | refine bthen ?_ (by assumption)))⟩
  · rw [if_neg hc]
    have HC := Lib.hid hc
    obtain ⟨u, hu⟩ : ∃ u, inB h 0 9000 = u := ⟨_, rfl⟩
    obtain ⟨v, hv⟩ : ∃ v, inB f 0 2000 = v := ⟨_, rfl⟩
    clear hc
    go_enter Tryz.func35, Tryz.ntmps35
    go_wp2_with fail
    go_region_held3 (fun W => Below ((w.alloc (.cells (cC c) 25)).alloc (.cells #[.int .i64 x.day, .int .i64 x.temp, .int .i64 x.rain] 36)).heap.size ((w.alloc (.cells (cC c) 25)).alloc (.cells #[.int .i64 x.day, .int .i64 x.temp, .int .i64 x.rain] 36)) W ∧ ∀ b o, b < ((w.alloc (.cells (cC c) 25)).alloc (.cells #[.int .i64 x.day, .int .i64 x.temp, .int .i64 x.rain] 36)).heap.size → W.cell? ⟨b, o, none⟩ = ((w.alloc (.cells (cC c) 25)).alloc (.cells #[.int .i64 x.day, .int .i64 x.temp, .int .i64 x.rain] 36)).cell? ⟨b, o, none⟩) (first | assumption | exact keepSd (keepS0 _) | exact keepSa _ (by assumption) | exact keepS (by assumption) hb1)
      (first | (go_at_call 97; refine (temp_calls _ _).mono ?_; rintro e w' ⟨rfl, rfl⟩) | (go_at_call 98; refine (height_calls _ _).mono ?_; rintro e w' ⟨rfl, rfl⟩) | (go_at_call 88; refine (in_calls _ _ _ _).mono ?_; rintro e w' ⟨rfl, rfl⟩) | (go_at_call 101; refine (day1_noC c x _ _ [u, v] _ (by first | exact (rdB2 (by simp) _ _ _).drew | exact rdB2 (by simp) _ _ _) HC.out).mono ?_; rintro e w' ⟨rfl, hb1⟩))
    go_wp2
    go_ret2
    exact ⟨rfl, (by repeat (first | exact Below.refl _ _ | refine balloc ?_ _ | refine bdrewN ?_ _ | refine bdrew ?_ | refine bthen ?_ (by assumption)))⟩

end Go.Proofs.YtnpggmdpokcakaaGreatDoor
