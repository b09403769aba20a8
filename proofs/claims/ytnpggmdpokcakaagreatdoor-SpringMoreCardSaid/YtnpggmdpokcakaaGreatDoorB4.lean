/- Contracts of package spring: Release. -/
import Derived.Test.YtnpggmdpokcakaaGreatDoorB3
set_option linter.unusedVariables false
set_option linter.unusedSimpArgs false
set_option linter.unnecessarySimpa false
namespace Go.Proofs.YtnpggmdpokcakaaGreatDoor
open Go.RowKit

theorem rdB4 {W : World} {g : Nat} (hg : g = W.heap.size) (a b c d : Bool) (t : TypeId) : Rd lB 1 (W.alloc (.cells #[.bool a, .bool b, .bool c, .bool d] t)) (some ⟨g, 0, none⟩) [a, b, c, d] :=
  rd_news (enc := lB) hg [a, b, c, d] t (by simp) (fun i hi j v hv => by
    have : i = 0 ∨ i = 1 ∨ i = 2 ∨ i = 3 := by simp at hi; omega
    rcases this with rfl | rfl | rfl | rfl
    all_goals
      cases j with
      | zero => simpa [lB] using hv
      | succ j => simp [lB] at hv)
theorem ckS_okSp {c : Sp.Cl} {no : Int} {l : List Sp.W} (h : ckS c no l = 0) : Sp.okCl c ∧ okSp c no l := by
  by_cases h1 : Sp.okCl c
  · by_cases h2 : okSp c no l
    · exact ⟨h1, h2⟩
    · rw [ckS_bad h1 h2] at h; omega
  · rw [ckS_no h1] at h; omega
theorem okSp_day0 {c : Sp.Cl} {no : Int} {l : List Sp.W} (h : okSp c no l) : 0 ≤ day0 l ∧ day0 l ≤ 1048576 := by
  have h1 : 0 < l.length := by have := h.2.1; omega
  have h2 := (h.2.2.1 0 h1).1
  rw [day0_eq h1] at h2
  exact h2
/-- The arguments of Release are in their ranges. -/
def relB (l : List Sp.W) (h s f d : Int) : List Bool := [inB h 0 9000, inB s 0 65536, inB f 0 2000, inB d (day0 l) (day0 l + l.length)]
set_option maxRecDepth 100000 in
set_option maxHeartbeats 4000000 in
theorem Release_bad (c : Sp.Cl) (no : Int) (A : Option Addr) (cap : Nat) (l : List Sp.W) (h s f d : Int) (w : World) (hr : Rd lW 3 w A l) (hc : ckS c no l ≠ 0) :
    Calls Tryz.prog 45 #[vC c, .agg #[.int .i64 no, .slice A l.length cap], .int .i64 h, .int .i64 s, .int .i64 f, .int .i64 d] w fun e w' => e = .returned (.tuple #[.int .i64 0, .int .i64 0, .int .i64 (ckS c no l)]) ∧ Below w.heap.size w w' := by
  simp only [vC]
  have HR := Lib.hid hr
  have hz : (ckS c no l != 0) = true := by simpa using hc
  clear hr
  go_enter Tryz.func45, Tryz.ntmps45
  go_wp2_with (go_at_call 27; refine (CheckSpring_calls c no _ _ l _ (by exact HR.out.below (by repeat (first | exact Below.refl _ _ | refine balloc ?_ _ | refine bdrewN ?_ _ | refine bdrew ?_ | refine bthen ?_ (by assumption))))).mono ?_; rintro e hbSW ⟨rfl, hbS⟩; have hbSc := (bcell hbS).1; have hbSz0 : w.heap.size < hbSW.heap.size := (by have hz_ := hbS.size; (try simp at hz_); omega); have hbSz1 : w.heap.size + 1 < hbSW.heap.size := (by have hz_ := hbS.size; (try simp at hz_); omega))
  go_ret3
  exact ⟨rfl, (by repeat (first | exact Below.refl _ _ | refine balloc ?_ _ | refine bdrewN ?_ _ | refine bdrew ?_ | refine bthen ?_ (by assumption)))⟩
set_option maxRecDepth 100000 in
set_option maxHeartbeats 4000000 in
theorem Release_ok (c : Sp.Cl) (no : Int) (A : Option Addr) (cap : Nat) (l : List Sp.W) (h s f d : Int) (w : World) (hr : Rd lW 3 w A l) (hc : ckS c no l = 0) :
    Calls Tryz.prog 45 #[vC c, .agg #[.int .i64 no, .slice A l.length cap], .int .i64 h, .int .i64 s, .int .i64 f, .int .i64 d] w fun e w' => e = .returned (.tuple (if falseIn (relB l h s f d) = false then #[.int .i64 (relGo c h f d l 0 s).1, .int .i64 (relGo c h f d l 0 s).2, .int .i64 0] else #[.int .i64 0, .int .i64 0, .int .i64 1])) ∧ Below w.heap.size w w' := by
  simp only [vC]
  have HR := Lib.hid hr
  have HC := Lib.hid (ckS_okSp hc).1
  have HS := Lib.hid (ckS_okSp hc).2
  have HL := Lib.hid (Sp.linked_ok (ckS_okSp hc).2.2.2.2)
  have hD := okSp_day0 (ckS_okSp hc).2
  have hN := (ckS_okSp hc).2.2.1
  have hn0 : 0 < l.length := by omega
  have hw : IntKind.i64.wrap (day0 l + (l.length : Int)) = day0 l + (l.length : Int) := IntWalk.i64_in _ (by omega)
  clear hr
  cases hf : falseIn (relB l h s f d) with
  | false =>
    rw [if_pos rfl]
    have hall : ∀ b ∈ relB l h s f d, b = true := by
      intro b hb
      cases b with
      | true => rfl
      | false => exact absurd (show falseIn (relB l h s f d) = true by unfold falseIn; first | exact List.any_eq_true.2 ⟨false, hb, rfl⟩ | simpa using hb) (by rw [hf]; simp)
    have b1 : inB h 0 9000 = true := hall _ (by simp [relB])
    have b2 : inB s 0 65536 = true := hall _ (by simp [relB])
    have b3 : inB f 0 2000 = true := hall _ (by simp [relB])
    have b4 : inB d (day0 l) (day0 l + l.length) = true := hall _ (by simp [relB])
    have r1 := of_decide_eq_true b1
    have r2 := of_decide_eq_true b2
    have r3 := of_decide_eq_true b3
    clear hf hall
    go_enter Tryz.func45, Tryz.ntmps45
    go_wp2_with (go_at_call 27; refine (CheckSpring_calls c no _ _ l _ (by exact HR.out.below (by repeat (first | exact Below.refl _ _ | refine balloc ?_ _ | refine bdrewN ?_ _ | refine bdrew ?_ | refine bthen ?_ (by assumption))))).mono ?_; rintro e hbSW ⟨rfl, hbS⟩; have hbSc := (bcell hbS).1; have hbSz0 : w.heap.size < hbSW.heap.size := (by have hz_ := hbS.size; (try simp at hz_); omega); have hbSz1 : w.heap.size + 1 < hbSW.heap.size := (by have hz_ := hbS.size; (try simp at hz_); omega))
    go_region_held3 (fun W => Below (hbSW).heap.size (hbSW) W ∧ ∀ b o, b < (hbSW).heap.size → W.cell? ⟨b, o, none⟩ = (hbSW).cell? ⟨b, o, none⟩) (first | assumption | exact keepSd (keepS0 _) | exact keepSa _ (by assumption) | exact keepS (by assumption) hb1)
      (first | (go_at_call 98; refine (height_calls _ _).mono ?_; rintro e w' ⟨rfl, rfl⟩) | (go_at_call 88; refine (in_calls _ _ _ _).mono ?_; rintro e w' ⟨rfl, rfl⟩) | (go_at_call 116; refine (begin_calls no _ _ l _ (by exact HR.out.below (by repeat (first | exact Below.refl _ _ | refine balloc ?_ _ | refine bdrewN ?_ _ | refine bdrew ?_ | refine bthen ?_ ‹_ ∧ _›.1 | refine bthen ?_ (by assumption)))) hn0).mono ?_; rintro e w' ⟨rfl, hb1⟩) | (go_at_call 117; refine (end_calls no _ _ l _ (by exact HR.out.below (by repeat (first | exact Below.refl _ _ | refine balloc ?_ _ | refine bdrewN ?_ _ | refine bdrew ?_ | refine bthen ?_ ‹_ ∧ _›.1 | refine bthen ?_ (by assumption)))) hn0 hD (by omega)).mono ?_; rintro e w' ⟨rfl, hb1⟩) | (go_at_call 96; refine (asked_yes c _ _ [true, true, true, true] _ (by first | exact (rdB4 (by simp) _ _ _ _ _).drew | exact rdB4 (by simp) _ _ _ _ _) HC.out rfl).mono ?_; rintro e w' ⟨rfl, hb1⟩))
    rename_i hH
    obtain ⟨hbH, hcH⟩ := hH
    go_wp2_with (go_at_call 118; refine (release_calls c no _ _ l h s f d _ HC.out (by exact HR.out.below (by repeat (first | exact Below.refl _ _ | refine balloc ?_ _ | refine bdrewN ?_ _ | refine bdrew ?_ | refine bthen ?_ (by assumption)))) HL.out (by omega) r1 (by omega) r3).mono ?_; rintro e hbRW ⟨rfl, hbR⟩; have hbRc := (bcell hbR).1)
    go_ret3
    exact ⟨rfl, (by repeat (first | exact Below.refl _ _ | refine balloc ?_ _ | refine bdrewN ?_ _ | refine bdrew ?_ | refine bthen ?_ (by assumption)))⟩
  | true =>
    rw [if_neg (by simp)]
    obtain ⟨u1, b1⟩ : ∃ b, inB h 0 9000 = b := ⟨_, rfl⟩
    obtain ⟨u2, b2⟩ : ∃ b, inB s 0 65536 = b := ⟨_, rfl⟩
    obtain ⟨u3, b3⟩ : ∃ b, inB f 0 2000 = b := ⟨_, rfl⟩
    obtain ⟨u4, b4⟩ : ∃ b, inB d (day0 l) (day0 l + l.length) = b := ⟨_, rfl⟩
    unfold relB at hf
    rw [b1, b2, b3, b4] at hf
    have HF := Lib.hid hf
    clear hf
    go_enter Tryz.func45, Tryz.ntmps45
    go_wp2_with (go_at_call 27; refine (CheckSpring_calls c no _ _ l _ (by exact HR.out.below (by repeat (first | exact Below.refl _ _ | refine balloc ?_ _ | refine bdrewN ?_ _ | refine bdrew ?_ | refine bthen ?_ (by assumption))))).mono ?_; rintro e hbSW ⟨rfl, hbS⟩; have hbSc := (bcell hbS).1; have hbSz0 : w.heap.size < hbSW.heap.size := (by have hz_ := hbS.size; (try simp at hz_); omega); have hbSz1 : w.heap.size + 1 < hbSW.heap.size := (by have hz_ := hbS.size; (try simp at hz_); omega))
    go_region_held3 (fun W => Below (hbSW).heap.size (hbSW) W ∧ ∀ b o, b < (hbSW).heap.size → W.cell? ⟨b, o, none⟩ = (hbSW).cell? ⟨b, o, none⟩) (first | assumption | exact keepSd (keepS0 _) | exact keepSa _ (by assumption) | exact keepS (by assumption) hb1)
      (first | (go_at_call 98; refine (height_calls _ _).mono ?_; rintro e w' ⟨rfl, rfl⟩) | (go_at_call 88; refine (in_calls _ _ _ _).mono ?_; rintro e w' ⟨rfl, rfl⟩) | (go_at_call 116; refine (begin_calls no _ _ l _ (by exact HR.out.below (by repeat (first | exact Below.refl _ _ | refine balloc ?_ _ | refine bdrewN ?_ _ | refine bdrew ?_ | refine bthen ?_ ‹_ ∧ _›.1 | refine bthen ?_ (by assumption)))) hn0).mono ?_; rintro e w' ⟨rfl, hb1⟩) | (go_at_call 117; refine (end_calls no _ _ l _ (by exact HR.out.below (by repeat (first | exact Below.refl _ _ | refine balloc ?_ _ | refine bdrewN ?_ _ | refine bdrew ?_ | refine bthen ?_ ‹_ ∧ _›.1 | refine bthen ?_ (by assumption)))) hn0 hD (by omega)).mono ?_; rintro e w' ⟨rfl, hb1⟩) | (go_at_call 96; refine (asked_bad c _ _ [u1, u2, u3, u4] _ (by first | exact (rdB4 (by simp) _ _ _ _ _).drew | exact rdB4 (by simp) _ _ _ _ _) HC.out HF.out).mono ?_; rintro e w' ⟨rfl, hb1⟩))
    rename_i hH
    obtain ⟨hbH, hcH⟩ := hH
    go_wp2_with fail
    go_ret3
    exact ⟨rfl, (by repeat (first | exact Below.refl _ _ | refine balloc ?_ _ | refine bdrewN ?_ _ | refine bdrew ?_ | refine bthen ?_ (by assumption)))⟩

end Go.Proofs.YtnpggmdpokcakaaGreatDoor
