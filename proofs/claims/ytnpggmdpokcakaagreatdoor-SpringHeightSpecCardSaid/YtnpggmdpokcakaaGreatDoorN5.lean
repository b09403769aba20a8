/- The reference's Frost. -/
import Derived.Test.YtnpggmdpokcakaaGreatDoorN4
import Derived.Test.YtnpggmdpokcakaaGreatDoorA6
set_option linter.unusedVariables false
set_option linter.unusedSimpArgs false
set_option linter.unnecessarySimpa false
namespace Go.Proofs.YtnpggmdpokcakaaGreatDoor
open Go.RowKit

theorem frostV_opq {c : Sp.Cl} {t : Int} (hc : Sp.okCl c) (ht : -600 ≤ t ∧ t ≤ 600) : frostV c t = .tuple #[.int .i64 (fV c t), .int .i64 (fE c t)] := by
  unfold fV fE frostV
  rw [if_pos hc, if_pos hc, if_pos ht, if_pos ht]
  cases frost c t <;> rfl
set_option maxRecDepth 100000 in
set_option maxHeartbeats 4000000 in
theorem RFrost_calls (c : Sp.Cl) (t : Int) (w : World) :
    Calls Tryz.prog 32 #[vC c, .int .i64 t] w fun e w' => e = .returned (.tuple #[.int .i64 (fV c t), .int .i64 (fE c t)]) ∧ Below w.heap.size w w' := by
  simp only [vC]
  by_cases hc : Sp.okCl c
  · by_cases ht : -600 ≤ t ∧ t ≤ 600
    · have b1 : inB t (-600) 600 = true := decide_eq_true ht
      have HC := Lib.hid hc
      have HT := Lib.hid ht
      obtain ⟨N, hN⟩ : ∃ N : Nat, (N : Int) = 9001 := ⟨9001, by norm_cast⟩
      have HNN := Lib.hid hN
      clear hN
      rw [← frostV_opq hc ht]
      obtain ⟨F, hF⟩ : ∃ F, frostV c t = F := ⟨_, rfl⟩
      have HF := Lib.hid hF
      rw [hF]
      clear hF ht hc
      go_enter Tryz.func32, Tryz.ntmps32
      go_wp2_with (first | (go_at_call 24; refine (RClimate_ok c _ HC.out).mono ?_; rintro e hb1W ⟨rfl, hb1⟩; have hb1c := (bcell hb1).1; have hb1z0 : w.heap.size < hb1W.heap.size := (by have hz_ := hb1.size; (try simp at hz_); omega)) | (go_at_call 89; refine (within_calls _ _ _ _).mono ?_; rintro e w' ⟨rfl, rfl⟩))
      go_loopw [6] (fun i wr => ∃ k : Nat, k ≤ N ∧ i = .int .i64 k ∧ Hid (∀ j : Nat, j < k → 0 < Sp.tempAt c t (j : Int)) ∧ Hid (Below w.heap.size w wr) ∧ Hid (wr.heap[w.heap.size]? = some (.cells (cC c) 25 (0, 0)))) (fun i _ => N - (intOf i).toNat)
      case atStart => exact ⟨0, by omega, rfl, Lib.hid (fun j h => absurd h (by omega)), Lib.hid (by repeat (first | exact Below.refl _ _ | refine balloc ?_ _ | refine bdrewN ?_ _ | refine bdrew ?_ | refine bthen ?_ (by assumption))), Lib.hid (box_below (box_new _ _) hb1)⟩
      case round =>
        obtain ⟨k, hk, rfl, HN, HB, HX⟩ := hrel
        by_cases hlt : k < N
        · obtain ⟨c0, c1, c2, c3, c4, c5, c6, c7⟩ := boxC HX.out
          have hg := box_lt HX.out
          have hkI : (k : Int) ≤ 9000 := by have := HNN.out; omega
          by_cases h0 : Sp.tempAt c t (k : Int) ≤ 0
          · go_wp2_with (go_at_call 100; refine (Rat_calls HC.out HT.out (by omega) _).mono ?_; rintro e hb2W ⟨rfl, hb2⟩; have hb2c := (bcell hb2).1)
            go_ret2
            exact ⟨congrArg Ending.returned ((frostV_hit (by have := HNN.out; omega) HN.out h0).symm.trans HF.out), bthen HB.out hb2⟩
          · go_wp2_with (go_at_call 100; refine (Rat_calls HC.out HT.out (by omega) _).mono ?_; rintro e hb2W ⟨rfl, hb2⟩; have hb2c := (bcell hb2).1)
            go_roundw
            case rel => exact ⟨k + 1, by omega, by go_num, Lib.hid (fun j hj => by
              by_cases e : j = k
              · subst e; exact h0
              · exact HN.out j (by omega)), Lib.hid (bthen HB.out hb2), Lib.hid (box_below HX.out hb2)⟩
            case measure => simp [intOf]; omega
        · have hkI : ¬ (k : Int) ≤ 9000 := by have := HNN.out; omega
          go_wp2
          go_ret2
          exact ⟨congrArg Ending.returned ((frostV_miss (fun j hj => HN.out j (by have := HNN.out; omega))).symm.trans HF.out), HB.out⟩
    · have b1 : inB t (-600) 600 = false := decide_eq_false ht
      have e : (Value.tuple #[.int .i64 (fV c t), .int .i64 (fE c t)]) = .tuple #[.int .i64 0, .int .i64 1] := by unfold fV fE; rw [if_pos hc, if_pos hc, if_neg ht, if_neg ht]
      rw [e]
      have HC := Lib.hid hc
      clear ht hc e
      go_enter Tryz.func32, Tryz.ntmps32
      go_wp2_with (first | (go_at_call 24; refine (RClimate_ok c _ HC.out).mono ?_; rintro e hb1W ⟨rfl, hb1⟩; have hb1c := (bcell hb1).1; have hb1z0 : w.heap.size < hb1W.heap.size := (by have hz_ := hb1.size; (try simp at hz_); omega)) | (go_at_call 89; refine (within_calls _ _ _ _).mono ?_; rintro e w' ⟨rfl, rfl⟩))
      go_ret2
      exact ⟨rfl, (by repeat (first | exact Below.refl _ _ | refine balloc ?_ _ | refine bdrewN ?_ _ | refine bdrew ?_ | refine bthen ?_ (by assumption)))⟩
  · have e : (Value.tuple #[.int .i64 (fV c t), .int .i64 (fE c t)]) = .tuple #[.int .i64 0, .int .i64 61] := by unfold fV fE; rw [if_neg hc, if_neg hc]
    rw [e]
    have HC := Lib.hid hc
    clear hc e
    go_enter Tryz.func32, Tryz.ntmps32
    go_wp2_with (go_at_call 24; refine (RClimate_no c _ HC.out).mono ?_; rintro e hb1W ⟨rfl, hb1⟩; have hb1c := (bcell hb1).1)
    go_ret2
    exact ⟨rfl, (by repeat (first | exact Below.refl _ _ | refine balloc ?_ _ | refine bdrewN ?_ _ | refine bdrew ?_ | refine bthen ?_ (by assumption)))⟩

end Go.Proofs.YtnpggmdpokcakaaGreatDoor
