/- Heights and what comes, day by day: plain laws. -/
import Derived.Test.YtnpggmdpokcakaaGreatDoorSpThy
set_option linter.unusedVariables false
set_option linter.unusedSimpArgs false
set_option linter.unnecessarySimpa false
namespace Go.Proofs.YtnpggmdpokcakaaGreatDoor.Sp
theorem tempAt_anti {c : Cl} (hc : okCl c) (t : Int) {h h' : Int} (hh : h ≤ h') : tempAt c t h' ≤ tempAt c t h := by
  unfold tempAt
  have h1 : c.lapse * (h - c.base) ≤ c.lapse * (h' - c.base) := Int.mul_le_mul_of_nonneg_left (by omega) hc.2.1.1
  have h2 := Int.ediv_le_ediv (show (0 : Int) < 100 by omega) h1
  omega
/-! ### What comes, day by day -/
def relW (c : Cl) (h f : Int) : List W → Int → Int → Int × Int
  | [], o, s => (o, s)
  | x :: l, o, s => relW c h f l (o + (wetn c x h + s + snow c x h - max 0 (s + snow c x h - melt c x h f))) (max 0 (s + snow c x h - melt c x h f))
theorem relW_more {c : Cl} {h f : Int} : ∀ {l : List W} {o s o' s' δ : Int}, s ≤ s' → s' - s ≤ δ → o' + s' = o + s + δ →
    (relW c h f l o s).2 ≤ (relW c h f l o' s').2 ∧ (relW c h f l o' s').2 - (relW c h f l o s).2 ≤ δ ∧ (relW c h f l o' s').1 + (relW c h f l o' s').2 = (relW c h f l o s).1 + (relW c h f l o s).2 + δ
  | [], o, s, o', s', δ, h1, h2, h3 => ⟨h1, h2, h3⟩
  | x :: l, o, s, o', s', δ, h1, h2, h3 => relW_more (l := l) (by omega) (by omega) (by omega)
theorem relW_hot {c : Cl} {h f f' : Int} (hf : 0 ≤ f) (hff : f ≤ f') : ∀ {l : List W} {o s o' s' : Int}, s' ≤ s → o' + s' = o + s →
    (relW c h f' l o' s').2 ≤ (relW c h f l o s).2 ∧ (relW c h f' l o' s').1 + (relW c h f' l o' s').2 = (relW c h f l o s).1 + (relW c h f l o s).2
  | [], o, s, o', s', h1, h2 => ⟨h1, h2⟩
  | x :: l, o, s, o', s', h1, h2 => by
    have hm : melt c x h f ≤ melt c x h f' := melt_mono hf hff (Int.le_refl _)
    exact relW_hot hf hff (l := l) (by omega) (by omega)
theorem relW_walk (c : Cl) (h f : Int) : ∀ (l : List W) (o s : Int), (relW c h f l o s).2 = walkW c h f l s
  | [], o, s => rfl
  | x :: l, o, s => relW_walk c h f l _ _
theorem relW_nonneg {c : Cl} {h f : Int} (hf : 0 ≤ f) : ∀ {l : List W} {o s : Int}, (∀ x ∈ l, 0 ≤ x.rain) → 0 ≤ o → 0 ≤ s → 0 ≤ (relW c h f l o s).1 ∧ 0 ≤ (relW c h f l o s).2
  | [], o, s, _, h1, h2 => ⟨h1, h2⟩
  | x :: l, o, s, hr, h1, h2 => by
    have h3 := snow_nonneg (c := c) (h := h) (hr x List.mem_cons_self)
    have h4 := wetn_nonneg (c := c) (h := h) (hr x List.mem_cons_self)
    have h5 := melt_nonneg (c := c) (w := x) (h := h) hf
    exact relW_nonneg hf (l := l) (fun y hy => hr y (List.mem_cons_of_mem _ hy)) (by omega) (by omega)
def rains : List W → Int
  | [] => 0
  | x :: l => x.rain + rains l
theorem relW_sum (c : Cl) (h f : Int) : ∀ (l : List W) (o s : Int), (relW c h f l o s).1 + (relW c h f l o s).2 = o + s + rains l
  | [], o, s => by simp [relW, rains]
  | x :: l, o, s => by
    have h1 := relW_sum c h f l (o + (wetn c x h + s + snow c x h - max 0 (s + snow c x h - melt c x h f))) (max 0 (s + snow c x h - melt c x h f))
    have h2 := snow_wetn c x h
    simp only [relW, rains]
    omega
end Go.Proofs.YtnpggmdpokcakaaGreatDoor.Sp
