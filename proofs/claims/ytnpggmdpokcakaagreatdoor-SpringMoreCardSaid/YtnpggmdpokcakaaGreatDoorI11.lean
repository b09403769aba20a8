/- The law SpringMore: what a call does. -/
import Derived.Test.YtnpggmdpokcakaaGreatDoorH11
import Derived.Test.YtnpggmdpokcakaaGreatDoorN3
import Derived.Test.YtnpggmdpokcakaaGreatDoorL3
set_option linter.unusedVariables false
set_option linter.unusedSimpArgs false
set_option linter.unnecessarySimpa false
namespace Go.Proofs.YtnpggmdpokcakaaGreatDoor
open Go Go.RowKit AM
set_option maxRecDepth 1000000
theorem more_calls (hsane : SaneIn tabT) (c : Sp.Cl) (no : Int) (A : Option Addr) (cap : Nat) (l : List Sp.W) (h s0 s1 f0 f1 d : Int) (W : World) (hT : tabT W) (hr : Rd lW 3 W A l) :
    Calls Tryz.prog 11 #[vC c, .agg #[.int .i64 no, .slice A l.length cap], .int .i64 h, .agg #[.int .i64 s0, .int .i64 s1], .agg #[.int .i64 f0, .int .i64 f1], .int .i64 d] W fun e W' => e = .returned (.bool true) ∧ Below W.heap.size W W' := by
  have hO : @SoundOracle (baseOf W) Tryz.prog (O11 W) := @ora_sound (baseOf W) _ _ _ _ (@o22_ok (baseOf W) tabT hsane (fun w' hk => tabT_kept hT hk)) (@ora_sound (baseOf W) _ _ _ _ (@o45_ok (baseOf W) W (fun _ hk => hk)) (@noOracle_sound (baseOf W) _))
  have hs : (evP cfg (O11 W) rangers noLive 0 1 11 [cA c, .agg [iv no, .v (.slice A l.length cap)], iv h, .agg [iv s0, iv s1], .agg [iv f0, iv f1], iv d] []).sat Says := by
    refine law11 c no W A l.length cap h s0 s1 f0 f1 d (okRd_of hr) ?_ ?_ ?_ ?_ ?_
    · intro h1 h2 h3; exact decide_eq_true (rel_more h1 h2 (by omega)).1
    · intro h1 h2 h3; exact decide_eq_true (rel_more h1 h2 (by omega)).2.1
    · intro h1 h2 h3
      have h4 := rel_more h1 h2 (show s0 ≤ s1 by omega)
      have h5 := (rE_ok h1).2.2.1
      have h6 := (rE_ok h2).2.2.1
      refine decide_eq_true ?_
      rw [show iSub .i64 s1 s0 = s1 - s0 from IntWalk.i64_in _ (by omega)]
      rw [show iSub .i64 (rL c no (rdL W A l.length) h s1 f0 d) (rL c no (rdL W A l.length) h s0 f0 d) = rL c no (rdL W A l.length) h s1 f0 d - rL c no (rdL W A l.length) h s0 f0 d from IntWalk.i64_in _ (by omega)]
      exact h4.2.2
    · intro h1 h2 h3; exact decide_eq_true (rel_hot h1 h2 (by omega)).1
    · intro h1 h2 h3; exact decide_eq_true (rel_hot h1 h2 (by omega)).2
  have h := @ev_calls (baseOf W) Tryz.prog _ (@evP_sound (baseOf W) cfg (O11 W) rangers cfg_ok cfg_mixed hO noLive 0 1) 11 [cA c, .agg [iv no, .v (.slice A l.length cap)], iv h, .agg [iv s0, iv s1], .agg [iv f0, iv f1], iv d] [vC c, .agg #[.int .i64 no, .slice A l.length cap], .int .i64 h, .agg #[.int .i64 s0, .int .i64 s1], .agg #[.int .i64 f0, .int .i64 f1], .int .i64 d] (fun x => x = .bool true) rfl hs W (fun _ _ => rfl) (fun _ hb => hb)
  exact h.mono fun e W' ⟨x, he, hx, hb⟩ => ⟨by rw [he, hx], hb⟩
end Go.Proofs.YtnpggmdpokcakaaGreatDoor
