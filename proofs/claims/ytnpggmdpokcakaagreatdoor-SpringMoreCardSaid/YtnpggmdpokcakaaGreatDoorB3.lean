/- Contracts of package spring: release, Release. -/
import Derived.Test.YtnpggmdpokcakaaGreatDoorB2
set_option linter.unusedVariables false
set_option linter.unusedSimpArgs false
set_option linter.unnecessarySimpa false
namespace Go.Proofs.YtnpggmdpokcakaaGreatDoor
open Go.RowKit

/-- What comes until a day, and what is left. -/
def relGo (c : Sp.Cl) (h f d : Int) : List Sp.W → Int → Int → Int × Int
  | [], o, s => (o, s)
  | x :: l, o, s => if d ≤ x.day then (o, s) else relGo c h f d l (o + (Sp.wetn c x h + s + Sp.snow c x h - max 0 (s + Sp.snow c x h - Sp.melt c x h f))) (max 0 (s + Sp.snow c x h - Sp.melt c x h f))
theorem relGo_stop (c : Sp.Cl) (h f d : Int) (x : Sp.W) (l : List Sp.W) (o s : Int) (hd : d ≤ x.day) : relGo c h f d (x :: l) o s = (o, s) := by
  rw [relGo, if_pos hd]
theorem relGo_go (c : Sp.Cl) (h f d : Int) (x : Sp.W) (l : List Sp.W) (o s : Int) (hd : ¬ d ≤ x.day) : relGo c h f d (x :: l) o s = relGo c h f d l (o + (Sp.wetn c x h + s + Sp.snow c x h - max 0 (s + Sp.snow c x h - Sp.melt c x h f))) (max 0 (s + Sp.snow c x h - Sp.melt c x h f)) := by
  rw [relGo, if_neg hd]
theorem snow_wetn {c : Sp.Cl} {x : Sp.W} {h : Int} (hx : 0 ≤ x.rain ∧ x.rain ≤ 1000) : (0 ≤ Sp.snow c x h ∧ 0 ≤ Sp.wetn c x h) ∧ Sp.snow c x h + Sp.wetn c x h = x.rain := by
  unfold Sp.snow Sp.wetn; split <;> omega
theorem melt_range {c : Sp.Cl} (hc : Sp.okCl c) {x : Sp.W} {h f : Int} (ht : -600 ≤ x.temp ∧ x.temp ≤ 600) (hh : 0 ≤ h ∧ h ≤ 9000) (hf : 0 ≤ f ∧ f ≤ 2000) : 0 ≤ Sp.melt c x h f ∧ Sp.melt c x h f ≤ 20000000 := by
  have hb := factor_bound hf (tempAt_bound hc ht hh)
  unfold Sp.melt
  omega
set_option maxRecDepth 100000 in
set_option maxHeartbeats 4000000 in
theorem release_calls (c : Sp.Cl) (no : Int) (A : Option Addr) (cap : Nat) (l : List Sp.W) (h s f d : Int) (w : World) (hc : Sp.okCl c) (hr : Rd lW 3 w A l) (hl : ∀ x ∈ l, Sp.okW c x) (hn : l.length ≤ 512) (hh : 0 ≤ h ∧ h ≤ 9000) (hs : 0 ≤ s ∧ s ≤ 1000000) (hf : 0 ≤ f ∧ f ≤ 2000) :
    Calls Tryz.prog 118 #[vC c, .agg #[.int .i64 no, .slice A l.length cap], .int .i64 h, .int .i64 s, .int .i64 f, .int .i64 d] w fun e w' => e = .returned (.tuple #[.int .i64 (relGo c h f d l 0 s).1, .int .i64 (relGo c h f d l 0 s).2]) ∧ Below w.heap.size w w' := by
  simp only [vC]
  have hlen := hr.1
  have HR := Lib.hid hr
  have HC := Lib.hid hc
  have HL := Lib.hid hl
  have hs0 := hs
  clear hr hc hl
  obtain ⟨R, hR⟩ : ∃ R, relGo c h f d l 0 s = R := ⟨_, rfl⟩
  rw [hR]
  have HRR := Lib.hid hR
  clear hR
  go_enter Tryz.func118, Tryz.ntmps118
  go_wp2_with fail
  go_loopw [3, 14, 23] (fun vs vo i wr => ∃ (k : Nat) (s' o : Int), k ≤ l.length ∧ i = .int .i64 k ∧ vs = .int .i64 s' ∧ vo = .int .i64 o ∧ (0 ≤ s' ∧ s' ≤ 1000000 + 1000 * k) ∧ (0 ≤ o ∧ o ≤ 3000000 * k) ∧
      Hid (relGo c h f d (l.drop k) o s' = R) ∧ Hid (wr.heap[w.heap.size]? = some (.cells (cC c) 25 (0, 0))) ∧ Hid (Below w.heap.size w wr)) (fun _ _ i _ => l.length - (intOf i).toNat)
  case atStart => exact ⟨0, s, 0, Nat.zero_le _, rfl, rfl, rfl, by omega, by omega, Lib.hid (by simpa using HRR.out), Lib.hid (by repeat (first | (with_reducible exact box_new _ _) | (refine box_at ?_ _; simp; done) | (with_reducible refine box_alloc _ ?_) | (with_reducible refine box_drewN ?_ _) | (with_reducible refine box_drew ?_) | (with_reducible refine box_below ?_ (by assumption)))), Lib.hid (by repeat (first | exact Below.refl _ _ | refine balloc ?_ _ | refine bdrewN ?_ _ | refine bdrew ?_ | refine bthen ?_ (by assumption)))⟩
  case round =>
    obtain ⟨k, s', o, hk, rfl, rfl, rfl, hs1, ho1, HG, HX, HB⟩ := hrel
    by_cases hlt : k < l.length
    · obtain ⟨b, off, hA, hbk, x0, x1, x2⟩ := (HR.out.below HB.out).atW hlt
      subst hA
      obtain ⟨c0, c1, c2, c3, c4, c5, c6, c7⟩ := boxC HX.out
      have hg := box_lt HX.out
      obtain ⟨x, hx⟩ : ∃ x, l[k] = x := ⟨_, rfl⟩
      have hw := HL.out l[k] (List.getElem_mem hlt)
      have hT : l.drop k = x :: l.drop (k + 1) := by rw [← hx]; exact List.drop_eq_getElem_cons hlt
      rw [hx] at x0 x1 x2 hw
      rw [hT] at HG
      have HW := Lib.hid (okW_range HC.out hw)
      have hxr := HW.out.2.2
      have hsw := snow_wetn (c := c) (h := h) hxr
      have hmt := melt_range (x := x) HC.out HW.out.2.1 hh hf
      clear hx hT hw
      have hi0 : (0 : Int) ≤ (k : Int) := by omega
      have hi1 : (k : Int) < (l.length : Int) := by omega
      have hbs := HB.out.size
      by_cases hd : d ≤ x.day
      · rw [relGo_stop c h f d x _ o s' hd] at HG
        clear hsw hmt
        go_wp2_with fail
        go_ret2
        have e1 := HG.out
        subst e1
        have qB := HB.out
        exact ⟨rfl, (by repeat (first | (with_reducible assumption) | exact Below.refl _ _ | refine bdrew ?_ | refine bdrewN ?_ _ | refine balloc ?_ _ | ((with_reducible refine bset ?_ ?p_ _); case p_ => (first | (simp; done) | (simp; omega))) | refine bthen ?_ (by assumption)))⟩
      · rw [relGo_go c h f d x _ o s' hd] at HG
        obtain ⟨sn, hsn⟩ : ∃ v, Sp.snow c x h = v := ⟨_, rfl⟩
        obtain ⟨wt, hwt⟩ : ∃ v, Sp.wetn c x h = v := ⟨_, rfl⟩
        obtain ⟨mt, hmt0⟩ : ∃ v, Sp.melt c x h f = v := ⟨_, rfl⟩
        rw [hsn, hwt] at hsw
        rw [hmt0] at hmt
        rw [hsn, hwt, hmt0] at HG
        go_wp2_with (first | (go_at_call 102; refine ((fall_calls c x h _ HC.out HW.out.2.1 hh)).mono ?_; rintro e hb1W ⟨rfl, hb1⟩; have hb1c := (bcell hb1).1; have hb1z0 : w.heap.size < hb1W.heap.size := (by have hz_ := hb1.size; (try simp at hz_); omega); have hb1z1 : w.heap.size + 1 < hb1W.heap.size := (by have hz_ := hb1.size; (try simp at hz_); omega)) | (go_at_call 104; refine ((melt_calls c x h f _ HC.out HW.out.2.1 hh hf)).mono ?_; rintro e hb2W ⟨rfl, hb2⟩; have hb2c := (bcell hb2).1; have hb2z0 : w.heap.size < hb2W.heap.size := (by have hz_ := hb2.size; (try simp at hz_); omega); have hb2z1 : w.heap.size + 1 < hb2W.heap.size := (by have hz_ := hb2.size; (try simp at hz_); omega)))
        have qB := HB.out
        refine ⟨⟨k + 1, _, _, hlt, rfl, rfl, rfl, by omega, by omega, HG, Lib.hid (box_below (box_below (box_alloc _ HX.out) hb1) hb2), Lib.hid (by repeat (first | exact Below.refl _ _ | refine balloc ?_ _ | refine bdrewN ?_ _ | refine bdrew ?_ | refine bthen ?_ (by assumption)))⟩, by simp [intOf]; omega⟩
    · have hkl : k = l.length := by omega
      subst hkl
      rw [List.drop_length] at HG
      go_wp2_with fail
      go_ret2
      have e1 := HG.out
      subst e1
      exact ⟨rfl, HB.out⟩

end Go.Proofs.YtnpggmdpokcakaaGreatDoor
