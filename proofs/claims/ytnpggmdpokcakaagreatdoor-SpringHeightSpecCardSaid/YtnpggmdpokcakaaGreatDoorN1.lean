/- What the answers on heights have to do with each other. -/
import Derived.Test.YtnpggmdpokcakaaGreatDoorN0
import Derived.Test.YtnpggmdpokcakaaGreatDoorSpMore
set_option linter.unusedVariables false
set_option linter.unusedSimpArgs false
set_option linter.unnecessarySimpa false
namespace Go.Proofs.YtnpggmdpokcakaaGreatDoor
open Go Go.RowKit
theorem aE_ok {c : Sp.Cl} {t h : Int} (e : aE c t h = 0) : Sp.okCl c ∧ (-600 ≤ t ∧ t ≤ 600) ∧ (0 ≤ h ∧ h ≤ 9000) ∧ aV c t h = Sp.tempAt c t h := by
  unfold aE at e
  split at e
  · rename_i hc
    split at e
    · rename_i hr
      exact ⟨hc, hr.1, hr.2, by unfold aV; rw [if_pos hc, if_pos hr]⟩
    · omega
  · omega
theorem fE_ok {c : Sp.Cl} {t : Int} (e : fE c t = 0) : Sp.okCl c ∧ ∃ k : Nat, fV c t = (k : Int) ∧ frost c t = some k := by
  unfold fE at e
  split at e
  · rename_i hc
    split at e
    · rename_i hr
      cases hf : frost c t with
      | none => rw [hf] at e; simp at e
      | some k => exact ⟨hc, k, by unfold fV; rw [if_pos hc, if_pos hr, hf], rfl⟩
    · omega
  · omega
theorem fE_none {c : Sp.Cl} {t : Int} (e : fE c t = 4) : frost c t = none := by
  unfold fE at e
  split at e
  · split at e
    · cases hf : frost c t with
      | none => rfl
      | some k => rw [hf] at e; simp at e
    · omega
  · omega
theorem sE_ok {c : Sp.Cl} {x : Sp.W} {h : Int} (e : sE c x h = 0) : Sp.okCl c ∧ Sp.okW c x ∧ (0 ≤ h ∧ h ≤ 9000) ∧ sS c x h = Sp.snow c x h ∧ sR c x h = Sp.wetn c x h := by
  unfold sE at e
  split at e
  · rename_i hc
    split at e
    · rename_i hx
      split at e
      · rename_i hr
        exact ⟨hc, hx, hr, by unfold sS; rw [if_pos hc, if_pos hx, if_pos hr], by unfold sR; rw [if_pos hc, if_pos hx, if_pos hr]⟩
      · omega
    · omega
  · omega
theorem mE_ok {c : Sp.Cl} {x : Sp.W} {h f : Int} (e : mE c x h f = 0) : Sp.okCl c ∧ Sp.okW c x ∧ ((0 ≤ h ∧ h ≤ 9000) ∧ 0 ≤ f ∧ f ≤ 2000) ∧ mV c x h f = Sp.melt c x h f := by
  unfold mE at e
  split at e
  · rename_i hc
    split at e
    · rename_i hx
      split at e
      · rename_i hr
        exact ⟨hc, hx, hr, by unfold mV; rw [if_pos hc, if_pos hx, if_pos hr]⟩
      · omega
    · omega
  · omega
theorem sS_range (c : Sp.Cl) (x : Sp.W) (h : Int) : 0 ≤ sS c x h ∧ 0 ≤ sR c x h ∧ sS c x h + sR c x h ≤ 1000 := by
  unfold sS sR
  split
  · rename_i hc
    split
    · rename_i hx
      split
      · have h1 := Sp.snow_wetn c x h
        have h2 := Sp.snow_nonneg (c := c) (h := h) hx.2.2.1
        have h3 := Sp.wetn_nonneg (c := c) (h := h) hx.2.2.1
        have h4 := hx.2.2.2
        have h5 := hc.2.2.2.1.2
        omega
      · omega
    · omega
  · omega
theorem fact_add (c : Sp.Cl) (x : Sp.W) (h : Int) : AM.iAdd .i64 (sS c x h) (sR c x h) = sS c x h + sR c x h := by
  have := sS_range c x h
  exact IntWalk.i64_in _ (by omega)
theorem fact_high {c : Sp.Cl} {t h h' : Int} (e : aE c t h = 0) (e' : aE c t h' = 0) (hh : h ≤ h') : aV c t h' ≤ aV c t h := by
  rw [(aE_ok e).2.2.2, (aE_ok e').2.2.2]
  exact Sp.tempAt_anti (aE_ok e).1 t hh
theorem fact_frost {c : Sp.Cl} {t h : Int} (e : aE c t h = 0) (e' : fE c t = 0) : (aV c t h ≤ 0 ↔ h ≥ fV c t) := by
  obtain ⟨hc, ht, hh, hv⟩ := aE_ok e
  obtain ⟨_, k, hk, hf⟩ := fE_ok e'
  unfold frost at hf
  rw [List.find?_range_eq_some] at hf
  obtain ⟨h1, h2, h3⟩ := hf
  rw [hv, hk]
  constructor
  · intro hle
    rcases Int.lt_or_le h (k : Int) with hlt | hge
    · have h4 := h3 h.toNat (by omega)
      have h5 : ((h.toNat : Nat) : Int) = h := by omega
      rw [h5] at h4
      simp at h4
      omega
    · exact hge
  · intro hge
    have h4 := Sp.tempAt_anti hc t (show (k : Int) ≤ h from hge)
    have h5 : Sp.tempAt c t (k : Int) ≤ 0 := by simpa using h1
    omega
theorem fact_never {c : Sp.Cl} {t h : Int} (e : aE c t h = 0) (e' : fE c t = 4) : 0 < aV c t h := by
  obtain ⟨hc, ht, hh, hv⟩ := aE_ok e
  have hf := fE_none e'
  unfold frost at hf
  rw [List.find?_range_eq_none] at hf
  have h4 := hf h.toNat (by omega)
  have h5 : ((h.toNat : Nat) : Int) = h := by omega
  rw [h5] at h4
  rw [hv]
  simpa using h4
theorem fact_sum {c : Sp.Cl} {x : Sp.W} {h : Int} (e : sE c x h = 0) : sS c x h + sR c x h = x.rain := by
  rw [(sE_ok e).2.2.2.1, (sE_ok e).2.2.2.2]
  exact Sp.snow_wetn c x h
theorem fact_at {c : Sp.Cl} {x : Sp.W} {h : Int} (e : sE c x h = 0) : aE c x.temp h = 0 := by
  obtain ⟨hc, hx, hh, _⟩ := sE_ok e
  unfold aE
  have := hc.2.2.2.2.1
  have := hx.2.1
  rw [if_pos hc, if_pos (by omega)]
theorem fact_snow {c : Sp.Cl} {v w : Sp.W} {h : Int} (e : sE c v h = 0) (e' : sE c w h = 0) (ht : v.temp ≤ w.temp) (hr : v.rain = w.rain) : sS c w h ≤ sS c v h := by
  obtain ⟨hc, hv, hh, h1, _⟩ := sE_ok e
  rw [h1, (sE_ok e').2.2.2.1]
  exact Sp.snow_mono ht (by omega) hv.2.2.1
theorem fact_kind {c : Sp.Cl} {x : Sp.W} {h : Int} (e : sE c x h = 0) : (sR c x h > 0 → aV c x.temp h > 0) ∧ (sS c x h > 0 → aV c x.temp h ≤ 0) := by
  have ha := fact_at e
  obtain ⟨hc, hx, hh, h1, h2⟩ := sE_ok e
  rw [h1, h2, (aE_ok ha).2.2.2]
  unfold Sp.snow Sp.wetn
  constructor
  · intro h3; split at h3 <;> omega
  · intro h3; split at h3 <;> omega
theorem fact_melt {c : Sp.Cl} {v w : Sp.W} {h f : Int} (e : mE c v h f = 0) (e' : mE c w h f = 0) (ht : v.temp ≤ w.temp) : mV c v h f ≤ mV c w h f := by
  obtain ⟨hc, hv, hh, h1⟩ := mE_ok e
  rw [h1, (mE_ok e').2.2.2]
  exact Sp.melt_mono hh.2.1 (Int.le_refl _) ht
theorem fact_either {c : Sp.Cl} {x : Sp.W} {h f : Int} (e : mE c x h f = 0) : mV c x h f = 0 ∨ sS c x h = 0 := by
  obtain ⟨hc, hx, hh, h1⟩ := mE_ok e
  rw [h1]
  have h2 : sS c x h = Sp.snow c x h := by unfold sS; rw [if_pos hc, if_pos hx, if_pos hh.1]
  rw [h2]
  unfold Sp.melt Sp.snow
  by_cases ht : Sp.tempAt c x.temp h ≤ 0
  · left
    rw [show max 0 (Sp.tempAt c x.temp h) = 0 by omega]
    simp
  · right
    rw [if_neg ht]
end Go.Proofs.YtnpggmdpokcakaaGreatDoor
