/- Contracts of package spring: At, Frost, Snow, Melt. -/
import Derived.Test.YtnpggmdpokcakaaGreatDoorA4
namespace Go.Proofs.YtnpggmdpokcakaaGreatDoor
open Go.RowKit

theorem and_falseIn {u v : Bool} (h : (u && v) = false) : falseIn [u, v] = true := by revert h; cases u <;> cases v <;> simp [falseIn]
set_option maxHeartbeats 4000000 in
theorem At_calls (c : Sp.Cl) (t h : Int) (w : World) :
    Calls Tryz.prog 29 #[vC c, .int .i64 t, .int .i64 h] w fun e w' => e = .returned (if Sp.okCl c then if (-600 ≤ t ∧ t ≤ 600) ∧ 0 ≤ h ∧ h ≤ 9000 then .tuple #[.int .i64 (Sp.tempAt c t h), .int .i64 0] else .tuple #[.int .i64 0, .int .i64 1] else .tuple #[.int .i64 0, .int .i64 61]) ∧ Below w.heap.size w w' := by
  simp only [vC]
  by_cases hc : Sp.okCl c
  · rw [if_pos hc]
    by_cases hth : (-600 ≤ t ∧ t ≤ 600) ∧ 0 ≤ h ∧ h ≤ 9000
    · rw [if_pos hth]
      obtain ⟨ht, hh⟩ := hth
      have b1 : inB t (-600) 600 = true := decide_eq_true ht
      have b2 : inB h 0 9000 = true := decide_eq_true hh
      go_enter Tryz.func29, Tryz.ntmps29
      go_wp2_with fail
      go_region_held3 (fun W => Below (w.alloc (.cells (cC c) 25)).heap.size (w.alloc (.cells (cC c) 25)) W ∧ ∀ b o, b < (w.alloc (.cells (cC c) 25)).heap.size → W.cell? ⟨b, o, none⟩ = (w.alloc (.cells (cC c) 25)).cell? ⟨b, o, none⟩) (first | assumption | exact keepSd (keepS0 _) | exact keepSa _ (by assumption) | exact keepS (by assumption) hb1)
        (first | (go_at_call 97; refine (temp_calls _ _).mono ?_; rintro e w' ⟨rfl, rfl⟩) | (go_at_call 98; refine (height_calls _ _).mono ?_; rintro e w' ⟨rfl, rfl⟩) | (go_at_call 88; refine (in_calls _ _ _ _).mono ?_; rintro e w' ⟨rfl, rfl⟩) | (go_at_call 96; refine (asked_yes c _ _ [true, true] _ (by first | exact (rdB2 (by simp) _ _ _).drew | exact rdB2 (by simp) _ _ _) hc rfl).mono ?_; rintro e w' ⟨rfl, hb1⟩))
      go_wp2_with (go_at_call 99; refine (at_calls c _ _ _ hc ht hh).mono ?_; rintro e hb2W ⟨rfl, hb2⟩; have hb2c := (bcell hb2).1)
      go_ret2
      exact ⟨rfl, (by repeat (first | exact Below.refl _ _ | refine balloc ?_ _ | refine bdrewN ?_ _ | refine bdrew ?_ | refine bthen ?_ (by assumption)))⟩
    · rw [if_neg hth]
      have hx : (inB t (-600) 600 && inB h 0 9000) = false := by rw [← Bool.not_eq_true]; intro hh; rw [Bool.and_eq_true] at hh; exact hth ⟨of_decide_eq_true hh.1, of_decide_eq_true hh.2⟩
      obtain ⟨u, hu⟩ : ∃ u, inB t (-600) 600 = u := ⟨_, rfl⟩
      obtain ⟨v, hv⟩ : ∃ v, inB h 0 9000 = v := ⟨_, rfl⟩
      rw [hu, hv] at hx
      have HF := Lib.hid (and_falseIn hx)
      clear hth hx
      go_enter Tryz.func29, Tryz.ntmps29
      go_wp2_with fail
      go_region_held3 (fun W => Below (w.alloc (.cells (cC c) 25)).heap.size (w.alloc (.cells (cC c) 25)) W ∧ ∀ b o, b < (w.alloc (.cells (cC c) 25)).heap.size → W.cell? ⟨b, o, none⟩ = (w.alloc (.cells (cC c) 25)).cell? ⟨b, o, none⟩) (first | assumption | exact keepSd (keepS0 _) | exact keepSa _ (by assumption) | exact keepS (by assumption) hb1)
        (first | (go_at_call 97; refine (temp_calls _ _).mono ?_; rintro e w' ⟨rfl, rfl⟩) | (go_at_call 98; refine (height_calls _ _).mono ?_; rintro e w' ⟨rfl, rfl⟩) | (go_at_call 88; refine (in_calls _ _ _ _).mono ?_; rintro e w' ⟨rfl, rfl⟩) | (go_at_call 96; refine (asked_bad c _ _ [u, v] _ (by first | exact (rdB2 (by simp) _ _ _).drew | exact rdB2 (by simp) _ _ _) hc HF.out).mono ?_; rintro e w' ⟨rfl, hb1⟩))
      go_wp2
      go_ret2
      exact ⟨rfl, (by repeat (first | exact Below.refl _ _ | refine balloc ?_ _ | refine bdrewN ?_ _ | refine bdrew ?_ | refine bthen ?_ (by assumption)))⟩
  · rw [if_neg hc]
    have HC := Lib.hid hc
    clear hc
    obtain ⟨u, hu⟩ : ∃ u, inB t (-600) 600 = u := ⟨_, rfl⟩
    obtain ⟨v, hv⟩ : ∃ v, inB h 0 9000 = v := ⟨_, rfl⟩
    go_enter Tryz.func29, Tryz.ntmps29
    go_wp2_with fail
    go_region_held3 (fun W => Below (w.alloc (.cells (cC c) 25)).heap.size (w.alloc (.cells (cC c) 25)) W ∧ ∀ b o, b < (w.alloc (.cells (cC c) 25)).heap.size → W.cell? ⟨b, o, none⟩ = (w.alloc (.cells (cC c) 25)).cell? ⟨b, o, none⟩) (first | assumption | exact keepSd (keepS0 _) | exact keepSa _ (by assumption) | exact keepS (by assumption) hb1)
      (first | (go_at_call 97; refine (temp_calls _ _).mono ?_; rintro e w' ⟨rfl, rfl⟩) | (go_at_call 98; refine (height_calls _ _).mono ?_; rintro e w' ⟨rfl, rfl⟩) | (go_at_call 88; refine (in_calls _ _ _ _).mono ?_; rintro e w' ⟨rfl, rfl⟩) | (go_at_call 96; refine (asked_no c _ _ [u, v] _ (by first | exact (rdB2 (by simp) _ _ _).drew | exact rdB2 (by simp) _ _ _) HC.out).mono ?_; rintro e w' ⟨rfl, hb1⟩))
    go_wp2
    go_ret2
    exact ⟨rfl, (by repeat (first | exact Below.refl _ _ | refine balloc ?_ _ | refine bdrewN ?_ _ | refine bdrew ?_ | refine bthen ?_ (by assumption)))⟩
/-- The least height at which it is not warmer than freezing. -/
def frost (c : Sp.Cl) (t : Int) : Option Nat := (List.range 9001).find? fun h => decide (Sp.tempAt c t (h : Int) ≤ 0)
theorem frost_hit {c : Sp.Cl} {t : Int} {k : Nat} (hk : k < 9001) (hn : ∀ j : Nat, j < k → 0 < Sp.tempAt c t (j : Int)) (h : Sp.tempAt c t (k : Int) ≤ 0) : frost c t = some k := by
  unfold frost
  rw [List.find?_range_eq_some]
  exact ⟨by simpa using h, by simpa using hk, fun j hj => by simpa using hn j hj⟩
theorem frost_miss {c : Sp.Cl} {t : Int} (hn : ∀ j : Nat, j < 9001 → 0 < Sp.tempAt c t (j : Int)) : frost c t = none := by
  unfold frost
  rw [List.find?_range_eq_none]
  intro j hj
  simpa using hn j hj
def frostV (c : Sp.Cl) (t : Int) : Value := match frost c t with
  | some k => .tuple #[.int .i64 (k : Int), .int .i64 0]
  | none => .tuple #[.int .i64 0, .int .i64 4]
theorem frostV_hit {c : Sp.Cl} {t : Int} {k : Nat} (hk : k < 9001) (hn : ∀ j : Nat, j < k → 0 < Sp.tempAt c t (j : Int)) (h : Sp.tempAt c t (k : Int) ≤ 0) : frostV c t = .tuple #[.int .i64 (k : Int), .int .i64 0] := by
  unfold frostV
  rw [frost_hit hk hn h]
theorem frostV_miss {c : Sp.Cl} {t : Int} (hn : ∀ j : Nat, j < 9001 → 0 < Sp.tempAt c t (j : Int)) : frostV c t = .tuple #[.int .i64 0, .int .i64 4] := by
  unfold frostV
  rw [frost_miss hn]
set_option maxRecDepth 100000 in
set_option maxHeartbeats 4000000 in
theorem Frost_calls (c : Sp.Cl) (t : Int) (w : World) :
    Calls Tryz.prog 31 #[vC c, .int .i64 t] w fun e w' => e = .returned (if Sp.okCl c then if (-600 ≤ t ∧ t ≤ 600) then frostV c t else .tuple #[.int .i64 0, .int .i64 1] else .tuple #[.int .i64 0, .int .i64 61]) ∧ Below w.heap.size w w' := by
  simp only [vC]
  by_cases hc : Sp.okCl c
  · rw [if_pos hc]
    by_cases ht : -600 ≤ t ∧ t ≤ 600
    · rw [if_pos ht]
      have b1 : inB t (-600) 600 = true := decide_eq_true ht
      have HC := Lib.hid hc
      have HT := Lib.hid ht
      obtain ⟨N, hN⟩ : ∃ N : Nat, (N : Int) = 9001 := ⟨9001, by norm_cast⟩
      have HNN := Lib.hid hN
      clear hN
      obtain ⟨F, hF⟩ : ∃ F, frostV c t = F := ⟨_, rfl⟩
      have HF := Lib.hid hF
      rw [hF]
      clear hF ht
      go_enter Tryz.func31, Tryz.ntmps31
      go_wp2_with fail
      go_region_held3 (fun W => Below (w.alloc (.cells (cC c) 25)).heap.size (w.alloc (.cells (cC c) 25)) W ∧ ∀ b o, b < (w.alloc (.cells (cC c) 25)).heap.size → W.cell? ⟨b, o, none⟩ = (w.alloc (.cells (cC c) 25)).cell? ⟨b, o, none⟩) (first | assumption | exact keepSd (keepS0 _) | exact keepSa _ (by assumption) | exact keepS (by assumption) hb1)
        (first | (go_at_call 97; refine (temp_calls _ _).mono ?_; rintro e w' ⟨rfl, rfl⟩) | (go_at_call 98; refine (height_calls _ _).mono ?_; rintro e w' ⟨rfl, rfl⟩) | (go_at_call 88; refine (in_calls _ _ _ _).mono ?_; rintro e w' ⟨rfl, rfl⟩) | (go_at_call 96; refine (asked_yes c _ _ [true] _ (by first | exact (rdB1 (by simp) _ _).drew | exact rdB1 (by simp) _ _) hc rfl).mono ?_; rintro e w' ⟨rfl, hb1⟩))
      clear hc
      go_wp2_with fail
      go_loopw [16] (fun i wr => ∃ k : Nat, k ≤ N ∧ i = .int .i64 k ∧ Hid (∀ j : Nat, j < k → 0 < Sp.tempAt c t (j : Int)) ∧ Hid (Below w.heap.size w wr) ∧ Hid (wr.heap[w.heap.size]? = some (.cells (cC c) 25 (0, 0)))) (fun i _ => N - (intOf i).toNat)
      case atStart => exact ⟨0, by omega, rfl, Lib.hid (fun j h => absurd h (by omega)), Lib.hid (by repeat (first | exact Below.refl _ _ | refine balloc ?_ _ | refine bdrewN ?_ _ | refine bdrew ?_ | refine bthen ?_ (by assumption))), Lib.hid (by repeat (first | (with_reducible exact box_new _ _) | (with_reducible refine box_alloc _ ?_) | (with_reducible refine box_drewN ?_ _) | (with_reducible refine box_drew ?_) | (with_reducible refine box_below ?_ (by assumption)) | exact box_new _ _))⟩
      case round =>
        obtain ⟨k, hk, rfl, HN, HB, HX⟩ := hrel
        by_cases hlt : k < N
        · obtain ⟨c0, c1, c2, c3, c4, c5, c6, c7⟩ := boxC HX.out
          have hg := box_lt HX.out
          have hkI : (k : Int) < 9001 := by have := HNN.out; omega
          by_cases h0 : Sp.tempAt c t (k : Int) ≤ 0
          · go_wp2_with (go_at_call 99; refine (at_calls c _ _ _ HC.out HT.out (by omega)).mono ?_; rintro e hb2W ⟨rfl, hb2⟩; have hb2c := (bcell hb2).1)
            go_ret2
            exact ⟨congrArg Ending.returned ((frostV_hit (by have := HNN.out; omega) HN.out h0).symm.trans HF.out), bthen HB.out hb2⟩
          · go_wp2_with (go_at_call 99; refine (at_calls c _ _ _ HC.out HT.out (by omega)).mono ?_; rintro e hb2W ⟨rfl, hb2⟩; have hb2c := (bcell hb2).1)
            go_roundw
            case rel => exact ⟨k + 1, by omega, by go_num, Lib.hid (fun j hj => by
              by_cases e : j = k
              · subst e; exact h0
              · exact HN.out j (by omega)), Lib.hid (bthen HB.out hb2), Lib.hid (box_below HX.out hb2)⟩
            case measure => simp [intOf]; omega
        · have hkI : ¬ (k : Int) < 9001 := by have := HNN.out; omega
          go_wp2
          go_ret2
          exact ⟨congrArg Ending.returned ((frostV_miss (fun j hj => HN.out j (by have := HNN.out; omega))).symm.trans HF.out), HB.out⟩
    · rw [if_neg ht]
      have b1 : inB t (-600) 600 = false := decide_eq_false ht
      have HT := Lib.hid ht
      clear ht
      go_enter Tryz.func31, Tryz.ntmps31
      go_wp2_with fail
      go_region_held3 (fun W => Below (w.alloc (.cells (cC c) 25)).heap.size (w.alloc (.cells (cC c) 25)) W ∧ ∀ b o, b < (w.alloc (.cells (cC c) 25)).heap.size → W.cell? ⟨b, o, none⟩ = (w.alloc (.cells (cC c) 25)).cell? ⟨b, o, none⟩) (first | assumption | exact keepSd (keepS0 _) | exact keepSa _ (by assumption) | exact keepS (by assumption) hb1)
        (first | (go_at_call 97; refine (temp_calls _ _).mono ?_; rintro e w' ⟨rfl, rfl⟩) | (go_at_call 98; refine (height_calls _ _).mono ?_; rintro e w' ⟨rfl, rfl⟩) | (go_at_call 88; refine (in_calls _ _ _ _).mono ?_; rintro e w' ⟨rfl, rfl⟩) | (go_at_call 96; refine (asked_bad c _ _ [false] _ (by first | exact (rdB1 (by simp) _ _).drew | exact rdB1 (by simp) _ _) hc rfl).mono ?_; rintro e w' ⟨rfl, hb1⟩))
      go_wp2
      go_ret2
      exact ⟨rfl, (by repeat (first | exact Below.refl _ _ | refine balloc ?_ _ | refine bdrewN ?_ _ | refine bdrew ?_ | refine bthen ?_ (by assumption)))⟩
  · rw [if_neg hc]
    have HC := Lib.hid hc
    clear hc
    obtain ⟨u, hu⟩ : ∃ u, inB t (-600) 600 = u := ⟨_, rfl⟩
    go_enter Tryz.func31, Tryz.ntmps31
    go_wp2_with fail
    go_region_held3 (fun W => Below (w.alloc (.cells (cC c) 25)).heap.size (w.alloc (.cells (cC c) 25)) W ∧ ∀ b o, b < (w.alloc (.cells (cC c) 25)).heap.size → W.cell? ⟨b, o, none⟩ = (w.alloc (.cells (cC c) 25)).cell? ⟨b, o, none⟩) (first | assumption | exact keepSd (keepS0 _) | exact keepSa _ (by assumption) | exact keepS (by assumption) hb1)
      (first | (go_at_call 97; refine (temp_calls _ _).mono ?_; rintro e w' ⟨rfl, rfl⟩) | (go_at_call 98; refine (height_calls _ _).mono ?_; rintro e w' ⟨rfl, rfl⟩) | (go_at_call 88; refine (in_calls _ _ _ _).mono ?_; rintro e w' ⟨rfl, rfl⟩) | (go_at_call 96; refine (asked_no c _ _ [u] _ (by first | exact (rdB1 (by simp) _ _).drew | exact rdB1 (by simp) _ _) HC.out).mono ?_; rintro e w' ⟨rfl, hb1⟩))
    go_wp2
    go_ret2
    exact ⟨rfl, (by repeat (first | exact Below.refl _ _ | refine balloc ?_ _ | refine bdrewN ?_ _ | refine bdrew ?_ | refine bthen ?_ (by assumption)))⟩

end Go.Proofs.YtnpggmdpokcakaaGreatDoor
