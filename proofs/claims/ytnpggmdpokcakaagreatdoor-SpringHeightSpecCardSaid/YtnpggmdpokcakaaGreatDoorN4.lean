/- The reference's functions on heights. -/
import Derived.Test.YtnpggmdpokcakaaGreatDoorN1
import Derived.Test.YtnpggmdpokcakaaGreatDoorC1
set_option linter.unusedVariables false
set_option linter.unusedSimpArgs false
set_option linter.unnecessarySimpa false
set_option linter.unusedSectionVars false
namespace Go.Proofs.YtnpggmdpokcakaaGreatDoor
open Go Go.RowKit AM
set_option maxRecDepth 100000
def cA (c : Sp.Cl) : AV := .agg [.v (.int .i64 c.base), .v (.int .i64 c.lapse), .v (.int .i64 c.swing), .v (.int .i64 c.wet), .v (.int .i64 c.cold), .v (.int .i64 c.warm), .v (.int .i64 c.flo), .v (.int .i64 c.fhi)]
def wA (x : Sp.W) : AV := .agg [.v (.int .i64 x.day), .v (.int .i64 x.temp), .v (.int .i64 x.rain)]
/-- A call with plain arguments, from the world of the call on. -/
theorem ev_there {O : Oracle} {f : FuncId} {args : List AV} {us : List Value} {z : Value} {n : Nat} (W : World) (hO : @SoundOracle (baseOf W) Tryz.prog O) (hr : AV.raws args = some us)
    (h : (evP cfg O rangers noLive 0 n f args []).sat fun r => ∃ x, r.1.raw = some x ∧ x = z) : Calls Tryz.prog f us.toArray W fun e w' => e = .returned z ∧ Below W.heap.size W w' := by
  have h := @ev_calls (baseOf W) Tryz.prog _ (@evP_sound (baseOf W) cfg O rangers cfg_ok cfg_mixed hO noLive 0 n) f args us (fun x => x = z) hr h W (fun _ _ => rfl) (fun _ hb => hb)
  exact h.mono fun e W' ⟨x, he, hx, hb⟩ => ⟨by rw [he, hx], hb⟩
/-! ### at -/
theorem atR {c : Sp.Cl} (hc : Sp.okCl c) {t h : Int} (ht : -600 ≤ t ∧ t ≤ 600) (hh : 0 ≤ h ∧ h ≤ 9000) :
    (iMul .i64 c.lapse (iSub .i64 h c.base) < 0 → iSub .i64 t (iSub .i64 0 (iQuo .i64 (iSub .i64 (iAdd .i64 (iSub .i64 0 (iMul .i64 c.lapse (iSub .i64 h c.base))) 100) 1) 100)) = Sp.tempAt c t h) ∧
    (¬ iMul .i64 c.lapse (iSub .i64 h c.base) < 0 → iSub .i64 t (iQuo .i64 (iMul .i64 c.lapse (iSub .i64 h c.base)) 100) = Sp.tempAt c t h) := by
  have hb := lapse_bound hc hh
  have h0 := hc.1
  have e1 : iSub .i64 h c.base = h - c.base := IntWalk.i64_in _ (by omega)
  have e2 : iMul .i64 c.lapse (h - c.base) = c.lapse * (h - c.base) := IntWalk.i64_in _ (by omega)
  rw [e1, e2]
  unfold Sp.tempAt
  generalize c.lapse * (h - c.base) = m at hb
  constructor
  · intro hm
    have e3 : iSub .i64 0 m = -m := (IntWalk.i64_in _ (by omega)).trans (by omega)
    have e4 : iAdd .i64 (-m) 100 = -m + 100 := IntWalk.i64_in _ (by omega)
    have e5 : iSub .i64 (-m + 100) 1 = -m + 99 := (IntWalk.i64_in _ (by omega)).trans (by omega)
    have e6 : (-m + 99).tdiv 100 = (-m + 99) / 100 := Int.tdiv_eq_ediv_of_nonneg (by omega)
    have e7 : iQuo .i64 (-m + 99) 100 = (-m + 99) / 100 := by unfold iQuo; rw [e6]; exact IntWalk.i64_in _ (by omega)
    have e8 : iSub .i64 0 ((-m + 99) / 100) = -((-m + 99) / 100) := (IntWalk.i64_in _ (by omega)).trans (by omega)
    rw [e3, e4, e5, e7, e8]
    exact (IntWalk.i64_in _ (by omega)).trans (by omega)
  · intro hm
    have e6 : m.tdiv 100 = m / 100 := Int.tdiv_eq_ediv_of_nonneg (by omega)
    have e7 : iQuo .i64 m 100 = m / 100 := by unfold iQuo; rw [e6]; exact IntWalk.i64_in _ (by omega)
    rw [e7]
    exact IntWalk.i64_in _ (by omega)
theorem Rat_calls {c : Sp.Cl} (hc : Sp.okCl c) {t h : Int} (ht : -600 ≤ t ∧ t ≤ 600) (hh : 0 ≤ h ∧ h ≤ 9000) (w : World) :
    Calls Tryz.prog 100 #[vC c, .int .i64 t, .int .i64 h] w fun e w' => e = .returned (.int .i64 (Sp.tempAt c t h)) ∧ Below w.heap.size w w' :=
  ev_there (n := 6) (args := [cA c, iv t, iv h]) (us := [vC c, .int .i64 t, .int .i64 h]) w (@noOracle_sound (baseOf w) _) rfl (T.sat_cutx (g := (.left (.left (.both (.right .leaf) (.right .leaf))))) (t' := (.ite (iLt (iMul .i64 c.lapse (iSub .i64 h c.base)) 0) (.ret ((.v (.int .i64 (iSub .i64 t (iSub .i64 0 (iQuo .i64 (iSub .i64 (iAdd .i64 (iSub .i64 0 (iMul .i64 c.lapse (iSub .i64 h c.base))) 100) 1) 100))))), [])) (.ret ((.v (.int .i64 (iSub .i64 t (iQuo .i64 (iMul .i64 c.lapse (iSub .i64 h c.base)) 100)))), [])))) (by kernel_rfl)
    (sB (fun b0 => have a0 := b0; have p0 := iLt_t a0; (sOk ⟨_, rfl, by rw [(atR hc ht hh).1 p0]⟩)) (fun b0 => have a0 := b0; have p0 := iLt_f a0; (sOk ⟨_, rfl, by rw [(atR hc ht hh).2 p0]⟩))))
noncomputable def atG (c : Sp.Cl) (t h : Int) : Bool := decide (Sp.okCl c ∧ (-600 ≤ t ∧ t ≤ 600) ∧ 0 ≤ h ∧ h ≤ 9000)
theorem ckC_iff (c : Sp.Cl) : ckC c = 0 ↔ Sp.okCl c := by unfold ckC; split <;> simp_all
section
variable [Base]
noncomputable def o24 (args : List AV) : T AV := match args with
  | [a] => (dCl a).bind fun c => .ret (.v (.int .i64 (ckC c)))
  | _ => .fail
theorem o24_ok : OraOk Tryz.prog 24 o24 := by
  intro args Q E us h hv w hI
  unfold o24 at h
  split at h
  · simp only [VRs] at hv
    obtain ⟨u1, r1, e1, v1, rfl⟩ := hv
    rw [T.sat_bind] at h
    obtain ⟨c, rfl, h⟩ := dCl_sat h v1
    obtain rfl : us = #[vC c] := Array.ext' e1
    exact (RClimate_any c w).mono fun e w' ⟨he, hb⟩ => ⟨_, _, he, h, rfl, hb⟩
  · exact h.elim
noncomputable def o91 (args : List AV) : T AV := match args with
  | [a, b] => (dCl a).bind fun c => (dW b).bind fun x => .ret (.v (.bool (okWB c x)))
  | _ => .fail
theorem o91_ok : OraOk Tryz.prog 91 o91 := by
  intro args Q E us h hv w hI
  unfold o91 at h
  split at h
  · simp only [VRs] at hv
    obtain ⟨u1, r1, e1, v1, u2, r2, rfl, v2, rfl⟩ := hv
    rw [T.sat_bind] at h
    obtain ⟨c, rfl, h⟩ := dCl_sat h v1
    rw [T.sat_bind] at h
    obtain ⟨x, rfl, h⟩ := dW_sat h v2
    obtain rfl : us = #[vC c, vW x] := Array.ext' e1
    exact (valid_calls c x w).mono fun e w' ⟨he, hb⟩ => ⟨_, _, he, h, rfl, hb⟩
  · exact h.elim
noncomputable def o100 (args : List AV) : T AV := match args with
  | [a, b, d] => (dCl a).bind fun c => (dI b).bind fun t => (dI d).bind fun h => T.guard (atG c t h) (.ret (.v (.int .i64 (Sp.tempAt c t h))))
  | _ => .fail
theorem o100_ok : OraOk Tryz.prog 100 o100 := by
  intro args Q E us h hv w hI
  unfold o100 at h
  split at h
  · simp only [VRs] at hv
    obtain ⟨u1, r1, e1, v1, u2, r2, rfl, v2, u3, r3, rfl, v3, rfl⟩ := hv
    rw [T.sat_bind] at h
    obtain ⟨c, rfl, h⟩ := dCl_sat h v1
    rw [T.sat_bind] at h
    obtain ⟨t, rfl, h⟩ := dI_sat h v2
    rw [T.sat_bind] at h
    obtain ⟨n, rfl, h⟩ := dI_sat h v3
    obtain ⟨hg, h⟩ := T.sat_guard h
    have hg := of_decide_eq_true hg
    obtain rfl : us = #[vC c, .int .i64 t, .int .i64 n] := Array.ext' e1
    exact (Rat_calls hg.1 hg.2.1 hg.2.2 w).mono fun e w' ⟨he, hb⟩ => ⟨_, _, he, h, rfl, hb⟩
  · exact h.elim
end
noncomputable def OR : Oracle := ora 24 o24 (ora 91 o91 (ora 100 o100 noOracle))
theorem OR_sound (W : World) : @SoundOracle (baseOf W) Tryz.prog OR := @ora_sound (baseOf W) _ _ _ _ (@o24_ok (baseOf W)) (@ora_sound (baseOf W) _ _ _ _ (@o91_ok (baseOf W)) (@ora_sound (baseOf W) _ _ _ _ (@o100_ok (baseOf W)) (@noOracle_sound (baseOf W) _)))
theorem iQuo1000 {f z : Int} (hf : 0 ≤ f ∧ f ≤ 2000) (hz : -10000 ≤ z ∧ z ≤ 10000) : iQuo .i64 (iMul .i64 f (iMax 0 z)) 1000 = f * max 0 z / 1000 := by
  have e0 : iMax 0 z = max 0 z := by unfold iMax; split <;> omega
  have hb := factor_bound hf hz
  have h1 : 0 ≤ f * max 0 z := Int.mul_nonneg hf.1 (by omega)
  rw [e0]
  have e1 : iMul .i64 f (max 0 z) = f * max 0 z := IntWalk.i64_in _ (by omega)
  rw [e1]
  unfold iQuo
  rw [Int.tdiv_eq_ediv_of_nonneg h1]
  exact IntWalk.i64_in _ (by omega)
theorem At_no {c : Sp.Cl} {t h : Int} (h0 : ¬ ckC c = 0) : Value.tuple #[.int .i64 (.ofNat 0), .int .i64 (.ofNat 61)] = .tuple #[.int .i64 (aV c t h), .int .i64 (aE c t h)] := by
  have h1 : ¬ Sp.okCl c := fun k => h0 ((ckC_iff c).2 k)
  unfold aV aE
  rw [if_neg h1, if_neg h1]
  rfl
theorem At_bad {c : Sp.Cl} {t h : Int} (h0 : ckC c = 0) (h2 : ¬ ((-600 ≤ t ∧ t ≤ 600) ∧ 0 ≤ h ∧ h ≤ 9000)) : Value.tuple #[.int .i64 (.ofNat 0), .int .i64 (.ofNat 1)] = .tuple #[.int .i64 (aV c t h), .int .i64 (aE c t h)] := by
  have h1 := (ckC_iff c).1 h0
  unfold aV aE
  rw [if_pos h1, if_pos h1, if_neg h2, if_neg h2]
  rfl
theorem At_ok {c : Sp.Cl} {t h : Int} (h0 : ckC c = 0) (ht : -600 ≤ t ∧ t ≤ 600) (hh : 0 ≤ h ∧ h ≤ 9000) : Value.tuple #[.int .i64 (Sp.tempAt c t h), .int .i64 (.ofNat 0)] = .tuple #[.int .i64 (aV c t h), .int .i64 (aE c t h)] := by
  have h1 := (ckC_iff c).1 h0
  unfold aV aE
  rw [if_pos h1, if_pos h1, if_pos ⟨ht, hh⟩, if_pos ⟨ht, hh⟩]
  rfl
theorem RAt_calls (c : Sp.Cl) (t h : Int) (w : World) : Calls Tryz.prog 30 #[vC c, .int .i64 t, .int .i64 h] w fun e w' => e = .returned (.tuple #[.int .i64 (aV c t h), .int .i64 (aE c t h)]) ∧ Below w.heap.size w w' := by
  have F0 : ckC c = 0 → t ≥ -600 → t ≤ 600 → h ≥ 0 → h ≤ 9000 → atG c t h = true := fun h0 h1 h2 h3 h4 => decide_eq_true ⟨(ckC_iff c).1 h0, ⟨h1, h2⟩, h3, h4⟩
  exact ev_there (n := 6) (args := [cA c, iv t, iv h]) (us := [vC c, .int .i64 t, .int .i64 h]) w (OR_sound w) rfl (T.sat_cutx (g := (.left (.left (.left (.both .leaf (.left (.both (.kt (.kt (.kt (.both (.kt (.left (.both (.kt (.kt (.kt (.kt (.kf (.both .leaf (.left (.left (.kt .leaf))))))))) (.kf (.kf (.kf (.kt (.kf (.left .leaf))))))))) (.kf (.kf (.kt (.left .leaf)))))))) (.kf (.kf (.kf (.right (.right (.right (.left (.left .leaf))))))))))))))) (t' := (.ite (iNe (ckC c) 0) (.ret ((.tup [(.v (.int .i64 (.ofNat 0))), (.v (.int .i64 (.ofNat 61)))]), [])) (.ite ((iGe t (-600)) == true) (.ite ((iGe t (-600)) == true) (.ite ((iGe t (-600)) == true) (.ite (iGe t (-600)) (.ite ((bNot (iLe t 600)) == false) (.ite ((bNot (iLe t 600)) == false) (.ite ((iGe h 0) == true) (.ite ((iGe h 0) == true) (.ite ((iGe h 0) == true) (.ite (iGe h 0) (.ite ((bNot (iLe t 600)) == false) (.ite (bNot (iLe t 600)) .fail (.ite (bNot (iLe h 9000)) (.ret ((.tup [(.v (.int .i64 (.ofNat 0))), (.v (.int .i64 (.ofNat 1)))]), [])) (.ite (atG c t h) (.ret ((.tup [(.v (.int .i64 (Sp.tempAt c t h))), (.v (.int .i64 (.ofNat 0)))]), [])) .fail))) .fail) .fail) .fail) .fail) (.ite ((iGe h 0) == true) .fail (.ite ((iGe h 0) == true) .fail (.ite (iGe h 0) .fail (.ite ((bNot (iLe t 600)) == false) (.ite (bNot (iLe t 600)) .fail (.ret ((.tup [(.v (.int .i64 (.ofNat 0))), (.v (.int .i64 (.ofNat 1)))]), []))) .fail))))) .fail) (.ite ((bNot (iLe t 600)) == false) .fail (.ite ((bNot (iLe t 600)) == false) .fail (.ite (bNot (iLe t 600)) (.ret ((.tup [(.v (.int .i64 (.ofNat 0))), (.v (.int .i64 (.ofNat 1)))]), [])) .fail)))) .fail) .fail) .fail) (.ite ((iGe t (-600)) == true) .fail (.ite ((iGe t (-600)) == true) .fail (.ite (iGe t (-600)) .fail (.ret ((.tup [(.v (.int .i64 (.ofNat 0))), (.v (.int .i64 (.ofNat 1)))]), [])))))))) (by kernel_rfl)
    (sB (fun b0 => have a0 := b0; have p0 := iNe_t a0; (sOk ⟨_, rfl, by first | exact At_no (by assumption) | exact At_bad (by assumption) (by omega) | exact At_ok (by assumption) (by omega) (by omega)⟩)) (fun b0 => have a0 := b0; have p0 := iNe_f a0; (sB (fun b1 => have a1 := (uqT b1); have p1 := iGe_t a1; (sT (eqT a1) (sT (eqT a1) (sT a1 (sB (fun b2 => have a2 := (unF (uqF b2)); have p2 := iLe_t a2; (sT (eqF (noF a2)) (sB (fun b3 => have a3 := (uqT b3); have p3 := iGe_t a3; (sT (eqT a3) (sT (eqT a3) (sT a3 (sT (eqF (noF a2)) (sF (noF a2) (sB (fun b4 => have a4 := (unT b4); have p4 := iLe_f a4; (sOk ⟨_, rfl, by first | exact At_no (by assumption) | exact At_bad (by assumption) (by omega) | exact At_ok (by assumption) (by omega) (by omega)⟩)) (fun b4 => have a4 := (unF b4); have p4 := iLe_t a4; (sT (F0 p0 p1 p2 p3 p4) (sOk ⟨_, rfl, by first | exact At_no (by assumption) | exact At_bad (by assumption) (by omega) | exact At_ok (by assumption) (by omega) (by omega)⟩)))))))))) (fun b3 => have a3 := (uqT' b3); have p3 := iGe_f a3; (sF (eqT' a3) (sF (eqT' a3) (sF a3 (sT (eqF (noF a2)) (sF (noF a2) (sOk ⟨_, rfl, by first | exact At_no (by assumption) | exact At_bad (by assumption) (by omega) | exact At_ok (by assumption) (by omega) (by omega)⟩)))))))))) (fun b2 => have a2 := (unT (uqF' b2)); have p2 := iLe_f a2; (sF (eqF' (noT a2)) (sF (eqF' (noT a2)) (sT (noT a2) (sOk ⟨_, rfl, by first | exact At_no (by assumption) | exact At_bad (by assumption) (by omega) | exact At_ok (by assumption) (by omega) (by omega)⟩)))))))))) (fun b1 => have a1 := (uqT' b1); have p1 := iGe_f a1; (sF (eqT' a1) (sF (eqT' a1) (sF a1 (sOk ⟨_, rfl, by first | exact At_no (by assumption) | exact At_bad (by assumption) (by omega) | exact At_ok (by assumption) (by omega) (by omega)⟩)))))))))
theorem falls_calls {c : Sp.Cl} (hc : Sp.okCl c) (x : Sp.W) {h : Int} (ht : -600 ≤ x.temp ∧ x.temp ≤ 600) (hh : 0 ≤ h ∧ h ≤ 9000) (w : World) :
    Calls Tryz.prog 103 #[vC c, vW x, .int .i64 h] w fun e w' => e = .returned (.tuple #[.int .i64 (Sp.snow c x h), .int .i64 (Sp.wetn c x h)]) ∧ Below w.heap.size w w' := by
  have F0 : atG c x.temp h = true := decide_eq_true ⟨hc, ht, hh⟩
  exact ev_there (n := 6) (args := [cA c, wA x, iv h]) (us := [vC c, vW x, .int .i64 h]) w (OR_sound w) rfl (T.sat_cutx (g := (.left (.left (.left (.left (.kt (.both .leaf (.left (.left (.left .leaf)))))))))) (t' := (.ite (atG c x.temp h) (.ite (iLe (Sp.tempAt c x.temp h) 0) (.ret ((.tup [(.v (.int .i64 x.rain)), (.v (.int .i64 (.ofNat 0)))]), [])) (.ret ((.tup [(.v (.int .i64 (.ofNat 0))), (.v (.int .i64 x.rain))]), []))) .fail)) (by kernel_rfl)
    (sT (F0 ) (sB (fun b0 => have a0 := b0; have p0 := iLe_t a0; (sOk ⟨_, rfl, by unfold Sp.snow Sp.wetn; split <;> first | rfl | (exfalso; omega)⟩)) (fun b0 => have a0 := b0; have p0 := iLe_f a0; (sOk ⟨_, rfl, by unfold Sp.snow Sp.wetn; split <;> first | rfl | (exfalso; omega)⟩)))))
theorem melts_calls {c : Sp.Cl} (hc : Sp.okCl c) (x : Sp.W) {h f : Int} (ht : -600 ≤ x.temp ∧ x.temp ≤ 600) (hh : 0 ≤ h ∧ h ≤ 9000) (hf : 0 ≤ f ∧ f ≤ 2000) (w : World) :
    Calls Tryz.prog 105 #[vC c, vW x, .int .i64 h, .int .i64 f] w fun e w' => e = .returned (.int .i64 (Sp.melt c x h f)) ∧ Below w.heap.size w w' := by
  have F0 : atG c x.temp h = true := decide_eq_true ⟨hc, ht, hh⟩
  exact ev_there (n := 6) (args := [cA c, wA x, iv h, iv f]) (us := [vC c, vW x, .int .i64 h, .int .i64 f]) w (OR_sound w) rfl (T.sat_cutx (g := (.left (.left (.left (.left (.kt (.right .leaf))))))) (t' := (.ite (atG c x.temp h) (.ret ((.v (.int .i64 (iQuo .i64 (iMul .i64 f (iMax 0 (Sp.tempAt c x.temp h))) 1000))), [])) .fail)) (by kernel_rfl)
    (sT (F0 ) (sOk ⟨_, rfl, by rw [iQuo1000 hf (tempAt_bound hc ht hh)]; rfl⟩)))
end Go.Proofs.YtnpggmdpokcakaaGreatDoor
