/- What Release answers has to do with more snow and a greater factor. -/
import Derived.Test.YtnpggmdpokcakaaGreatDoorN2
import Derived.Test.YtnpggmdpokcakaaGreatDoorSpMore
set_option linter.unusedVariables false
set_option linter.unusedSimpArgs false
set_option linter.unnecessarySimpa false
namespace Go.Proofs.YtnpggmdpokcakaaGreatDoor
open Go Go.RowKit
theorem relGo_relW (c : Sp.Cl) (h f d : Int) : ∀ (l : List Sp.W) (o s : Int), relGo c h f d l o s = Sp.relW c h f (l.takeWhile fun x => decide (x.day < d)) o s
  | [], o, s => rfl
  | x :: l, o, s => by
    by_cases hd : d ≤ x.day
    · rw [relGo_stop c h f d x l o s hd, List.takeWhile_cons, if_neg (by simp; omega)]
      rfl
    · rw [relGo_go c h f d x l o s hd, List.takeWhile_cons, if_pos (by simp; omega)]
      exact relGo_relW c h f d l _ _
theorem falseIn_all {l : List Bool} (hf : falseIn l = false) : ∀ b ∈ l, b = true := by
  intro b hb
  cases b with
  | true => rfl
  | false => exact absurd (show falseIn l = true by unfold falseIn; first | exact List.any_eq_true.2 ⟨false, hb, rfl⟩ | simpa using hb) (by rw [hf]; simp)
theorem rE_ok {c : Sp.Cl} {no : Int} {l : List Sp.W} {h s f d : Int} (e : rE c no l h s f d = 0) :
    ckS c no l = 0 ∧ (0 ≤ h ∧ h ≤ 9000) ∧ (0 ≤ s ∧ s ≤ 65536) ∧ (0 ≤ f ∧ f ≤ 2000) ∧ (day0 l ≤ d ∧ d ≤ day0 l + l.length) ∧
      rC c no l h s f d = (Sp.relW c h f (l.takeWhile fun x => decide (x.day < d)) 0 s).1 ∧ rL c no l h s f d = (Sp.relW c h f (l.takeWhile fun x => decide (x.day < d)) 0 s).2 := by
  unfold rE at e
  split at e
  · rename_i hc
    split at e
    · rename_i hf
      have hall := falseIn_all hf
      refine ⟨hc, of_decide_eq_true (hall _ (by simp [relB] : inB h 0 9000 ∈ relB l h s f d)), of_decide_eq_true (hall _ (by simp [relB] : inB s 0 65536 ∈ relB l h s f d)), of_decide_eq_true (hall _ (by simp [relB] : inB f 0 2000 ∈ relB l h s f d)), of_decide_eq_true (hall _ (by simp [relB] : inB d (day0 l) (day0 l + l.length) ∈ relB l h s f d)), ?_, ?_⟩
      · unfold rC; rw [if_pos hc, if_pos hf, relGo_relW]
      · unfold rL; rw [if_pos hc, if_pos hf, relGo_relW]
    · omega
  · rename_i hc
    exact absurd e hc
theorem rel_more {c : Sp.Cl} {no : Int} {l : List Sp.W} {h s s' f d : Int} (e : rE c no l h s f d = 0) (e' : rE c no l h s' f d = 0) (hs : s ≤ s') :
    rC c no l h s f d ≤ rC c no l h s' f d ∧ rL c no l h s f d ≤ rL c no l h s' f d ∧ rL c no l h s' f d - rL c no l h s f d ≤ s' - s := by
  obtain ⟨_, _, _, _, _, h1, h2⟩ := rE_ok e
  obtain ⟨_, _, _, _, _, h3, h4⟩ := rE_ok e'
  rw [h1, h2, h3, h4]
  have := Sp.relW_more (c := c) (h := h) (f := f) (l := l.takeWhile fun x => decide (x.day < d)) (o := 0) (o' := 0) (s := s) (s' := s') (δ := s' - s) hs (Int.le_refl _) (by omega)
  omega
theorem rel_hot {c : Sp.Cl} {no : Int} {l : List Sp.W} {h s f f' d : Int} (e : rE c no l h s f d = 0) (e' : rE c no l h s f' d = 0) (hf : f ≤ f') :
    rC c no l h s f d ≤ rC c no l h s f' d ∧ rL c no l h s f' d ≤ rL c no l h s f d := by
  obtain ⟨_, _, _, hr, _, h1, h2⟩ := rE_ok e
  obtain ⟨_, _, _, _, _, h3, h4⟩ := rE_ok e'
  rw [h1, h2, h3, h4]
  have := Sp.relW_hot (c := c) (h := h) hr.1 hf (l := l.takeWhile fun x => decide (x.day < d)) (o := 0) (o' := 0) (s := s) (s' := s) (Int.le_refl _) rfl
  omega
end Go.Proofs.YtnpggmdpokcakaaGreatDoor
