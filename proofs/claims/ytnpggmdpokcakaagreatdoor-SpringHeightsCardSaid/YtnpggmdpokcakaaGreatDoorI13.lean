/- The law SpringHeights: what a call does. -/
import Derived.Test.YtnpggmdpokcakaaGreatDoorH13
import Derived.Test.YtnpggmdpokcakaaGreatDoorL2
set_option linter.unusedVariables false
set_option linter.unusedSimpArgs false
set_option linter.unnecessarySimpa false
namespace Go.Proofs.YtnpggmdpokcakaaGreatDoor
open Go Go.RowKit AM
set_option maxRecDepth 1000000
theorem heights_calls (hsane : SaneIn tabT) (c : Sp.Cl) (v w : Sp.W) (low high factor : Int) (W : World) (hT : tabT W) :
    Calls Tryz.prog 13 #[vC c, vW v, vW w, .int .i64 low, .int .i64 high, .int .i64 factor] W fun e W' => e = .returned (.bool true) ∧ Below W.heap.size W W' := by
  have hO : @SoundOracle (baseOf W) Tryz.prog O13 := @ora_sound (baseOf W) _ _ _ _ (@o22_ok (baseOf W) tabT hsane (fun w' hk => tabT_kept hT hk)) (@ora_sound (baseOf W) _ _ _ _ (@o29_ok (baseOf W)) (@ora_sound (baseOf W) _ _ _ _ (@o31_ok (baseOf W)) (@ora_sound (baseOf W) _ _ _ _ (@o33_ok (baseOf W)) (@ora_sound (baseOf W) _ _ _ _ (@o35_ok (baseOf W)) (@noOracle_sound (baseOf W) _)))))
  have hs : (evP cfg O13 rangers noLive 0 1 13 [cA c, wA v, wA w, iv low, iv high, iv factor] []).sat Says := by
    refine law13 c v w low high factor ?_ ?_ ?_ ?_ ?_ ?_ ?_ ?_ ?_ ?_ ?_ ?_ ?_
    · intro h; unfold iEq; rw [h]; rfl
    · intro h1 h2 h3; have := fact_high h1 h2 (show low ≤ high by omega); exact decide_eq_false (by omega)
    · intro h1 h2
      have h3 := fact_frost h1 h2
      unfold iLe iGe
      by_cases hx : aV c w.temp low ≤ 0
      · rw [decide_eq_true hx, decide_eq_true (h3.1 hx)]; rfl
      · rw [decide_eq_false hx, decide_eq_false (fun h => hx (h3.2 h))]; rfl
    · intro h1 h2; have := fact_never h1 h2; exact decide_eq_false (by omega)
    · intro h1; unfold iNe; rw [fact_add, fact_sum h1]; simp
    · intro h1; unfold iNe; rw [fact_add, fact_sum h1]; simp
    · intro h1 h2 h3 h4; have := fact_snow h1 h2 (show v.temp ≤ w.temp by omega) h4; exact decide_eq_false (by omega)
    · intro h1 h2; have := (fact_kind h1).1 h2; exact decide_eq_false (by omega)
    · intro h1 h2; have := (fact_kind h1).2 h2; exact decide_eq_false (by omega)
    · intro h1 h2; have := (fact_kind h1).1; exact decide_eq_false (fun h => by have := this h; omega)
    · intro h1 h2 h3; have := fact_melt h1 h2 (show v.temp ≤ w.temp by omega); exact decide_eq_true this
    · intro h1 h2; rcases fact_either h1 with h | h
      · exact absurd h h2
      · unfold iEq; rw [h]; rfl
    · intro h1 h2; rcases fact_either h1 with h | h
      · exact absurd h h2
      · unfold iEq; rw [h]; rfl
  have h := @ev_calls (baseOf W) Tryz.prog _ (@evP_sound (baseOf W) cfg O13 rangers cfg_ok cfg_mixed hO noLive 0 1) 13 [cA c, wA v, wA w, iv low, iv high, iv factor] [vC c, vW v, vW w, .int .i64 low, .int .i64 high, .int .i64 factor] (fun x => x = .bool true) rfl hs W (fun _ _ => rfl) (fun _ hb => hb)
  exact h.mono fun e W' ⟨x, he, hx, hb⟩ => ⟨by rw [he, hx], hb⟩
end Go.Proofs.YtnpggmdpokcakaaGreatDoor
