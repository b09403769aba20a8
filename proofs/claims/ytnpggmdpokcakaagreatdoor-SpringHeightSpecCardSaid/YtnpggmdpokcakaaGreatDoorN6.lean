/- The reference's Snow and Melt; what the reference answers, as oracles. -/
import Derived.Test.YtnpggmdpokcakaaGreatDoorN5
set_option linter.unusedVariables false
set_option linter.unusedSimpArgs false
set_option linter.unnecessarySimpa false
set_option linter.unusedSectionVars false
namespace Go.Proofs.YtnpggmdpokcakaaGreatDoor
open Go Go.RowKit AM
set_option maxRecDepth 100000
theorem id_t {b : Bool} (h : b = true) : b = true := h
theorem id_f {b : Bool} (h : b = false) : b = false := h
theorem okWB_of {c : Sp.Cl} {x : Sp.W} (h : okWB c x = true) : Sp.okW c x := of_decide_eq_true h
theorem okWB_not {c : Sp.Cl} {x : Sp.W} (h : okWB c x = false) : ¬ Sp.okW c x := of_decide_eq_false h
theorem atG_of {c : Sp.Cl} {x : Sp.W} {h : Int} (h0 : ckC c = 0) (h1 : okWB c x = true) (h2 : h ≥ 0) (h3 : h ≤ 9000) : atG c x.temp h = true :=
  decide_eq_true ⟨(ckC_iff c).1 h0, (okW_range ((ckC_iff c).1 h0) (okWB_of h1)).2.1, h2, h3⟩
section
variable {c : Sp.Cl} {x : Sp.W} {h f : Int}
theorem Snow_no (h0 : ¬ ckC c = 0) : Value.tuple #[.int .i64 (.ofNat 0), .int .i64 (.ofNat 0), .int .i64 (.ofNat 61)] = .tuple #[.int .i64 (sS c x h), .int .i64 (sR c x h), .int .i64 (sE c x h)] := by
  have h1 : ¬ Sp.okCl c := fun k => h0 ((ckC_iff c).2 k)
  unfold sS sR sE
  rw [if_neg h1, if_neg h1, if_neg h1]
  rfl
theorem Snow_w (h0 : ckC c = 0) (hx : okWB c x = false) : Value.tuple #[.int .i64 (.ofNat 0), .int .i64 (.ofNat 0), .int .i64 (.ofNat 60)] = .tuple #[.int .i64 (sS c x h), .int .i64 (sR c x h), .int .i64 (sE c x h)] := by
  have h1 := (ckC_iff c).1 h0
  have h2 := okWB_not hx
  unfold sS sR sE
  rw [if_pos h1, if_pos h1, if_pos h1, if_neg h2, if_neg h2, if_neg h2]
  rfl
theorem Snow_bad (h0 : ckC c = 0) (hx : okWB c x = true) (hh : ¬ (0 ≤ h ∧ h ≤ 9000)) : Value.tuple #[.int .i64 (.ofNat 0), .int .i64 (.ofNat 0), .int .i64 (.ofNat 1)] = .tuple #[.int .i64 (sS c x h), .int .i64 (sR c x h), .int .i64 (sE c x h)] := by
  have h1 := (ckC_iff c).1 h0
  have h2 := okWB_of hx
  unfold sS sR sE
  rw [if_pos h1, if_pos h1, if_pos h1, if_pos h2, if_pos h2, if_pos h2, if_neg hh, if_neg hh, if_neg hh]
  rfl
theorem Snow_cold (h0 : ckC c = 0) (hx : okWB c x = true) (hh : 0 ≤ h ∧ h ≤ 9000) (hc : Sp.tempAt c x.temp h ≤ 0) : Value.tuple #[.int .i64 x.rain, .int .i64 (.ofNat 0), .int .i64 (.ofNat 0)] = .tuple #[.int .i64 (sS c x h), .int .i64 (sR c x h), .int .i64 (sE c x h)] := by
  have h1 := (ckC_iff c).1 h0
  have h2 := okWB_of hx
  unfold sS sR sE Sp.snow Sp.wetn
  rw [if_pos h1, if_pos h1, if_pos h1, if_pos h2, if_pos h2, if_pos h2, if_pos hh, if_pos hh, if_pos hh, if_pos hc, if_pos hc]
  rfl
theorem Snow_warm (h0 : ckC c = 0) (hx : okWB c x = true) (hh : 0 ≤ h ∧ h ≤ 9000) (hc : ¬ Sp.tempAt c x.temp h ≤ 0) : Value.tuple #[.int .i64 (.ofNat 0), .int .i64 x.rain, .int .i64 (.ofNat 0)] = .tuple #[.int .i64 (sS c x h), .int .i64 (sR c x h), .int .i64 (sE c x h)] := by
  have h1 := (ckC_iff c).1 h0
  have h2 := okWB_of hx
  unfold sS sR sE Sp.snow Sp.wetn
  rw [if_pos h1, if_pos h1, if_pos h1, if_pos h2, if_pos h2, if_pos h2, if_pos hh, if_pos hh, if_pos hh, if_neg hc, if_neg hc]
  rfl
theorem Melt_no (h0 : ¬ ckC c = 0) : Value.tuple #[.int .i64 (.ofNat 0), .int .i64 (.ofNat 61)] = .tuple #[.int .i64 (mV c x h f), .int .i64 (mE c x h f)] := by
  have h1 : ¬ Sp.okCl c := fun k => h0 ((ckC_iff c).2 k)
  unfold mV mE
  rw [if_neg h1, if_neg h1]
  rfl
theorem Melt_w (h0 : ckC c = 0) (hx : okWB c x = false) : Value.tuple #[.int .i64 (.ofNat 0), .int .i64 (.ofNat 60)] = .tuple #[.int .i64 (mV c x h f), .int .i64 (mE c x h f)] := by
  have h1 := (ckC_iff c).1 h0
  have h2 := okWB_not hx
  unfold mV mE
  rw [if_pos h1, if_pos h1, if_neg h2, if_neg h2]
  rfl
theorem Melt_bad (h0 : ckC c = 0) (hx : okWB c x = true) (hh : ¬ ((0 ≤ h ∧ h ≤ 9000) ∧ 0 ≤ f ∧ f ≤ 2000)) : Value.tuple #[.int .i64 (.ofNat 0), .int .i64 (.ofNat 1)] = .tuple #[.int .i64 (mV c x h f), .int .i64 (mE c x h f)] := by
  have h1 := (ckC_iff c).1 h0
  have h2 := okWB_of hx
  unfold mV mE
  rw [if_pos h1, if_pos h1, if_pos h2, if_pos h2, if_neg hh, if_neg hh]
  rfl
theorem Melt_ok (h0 : ckC c = 0) (hx : okWB c x = true) (hh : (0 ≤ h ∧ h ≤ 9000) ∧ 0 ≤ f ∧ f ≤ 2000) : Value.tuple #[.int .i64 (iQuo .i64 (iMul .i64 f (iMax 0 (Sp.tempAt c x.temp h))) 1000), .int .i64 (.ofNat 0)] = .tuple #[.int .i64 (mV c x h f), .int .i64 (mE c x h f)] := by
  have h1 := (ckC_iff c).1 h0
  have h2 := okWB_of hx
  rw [iQuo1000 hh.2 (tempAt_bound h1 (okW_range h1 h2).2.1 hh.1)]
  unfold mV mE Sp.melt
  rw [if_pos h1, if_pos h1, if_pos h2, if_pos h2, if_pos hh, if_pos hh]
  rfl
end
theorem RSnow_calls (c : Sp.Cl) (x : Sp.W) (h : Int) (w : World) : Calls Tryz.prog 34 #[vC c, vW x, .int .i64 h] w fun e w' => e = .returned (.tuple #[.int .i64 (sS c x h), .int .i64 (sR c x h), .int .i64 (sE c x h)]) ∧ Below w.heap.size w w' := by
  have F0 : ckC c = 0 → okWB c x = true → h ≥ 0 → h ≤ 9000 → atG c x.temp h = true := atG_of
  exact ev_there (n := 6) (args := [cA c, wA x, iv h]) (us := [vC c, vW x, .int .i64 h]) w (OR_sound w) rfl (T.sat_cutx (g := (.left (.left (.left (.left (.both .leaf (.left (.left (.left (.both .leaf (.left (.both (.kt (.kt (.kt (.both .leaf (.left (.left (.left (.left (.left (.left (.left (.kt (.both .leaf (.left (.left (.left .leaf)))))))))))))))) (.kf (.kf (.kf (.left .leaf)))))))))))))))) (t' := (.ite (iNe (ckC c) 0) (.ret ((.tup [(.v (.int .i64 (.ofNat 0))), (.v (.int .i64 (.ofNat 0))), (.v (.int .i64 (.ofNat 61)))]), [])) (.ite (bNot (okWB c x)) (.ret ((.tup [(.v (.int .i64 (.ofNat 0))), (.v (.int .i64 (.ofNat 0))), (.v (.int .i64 (.ofNat 60)))]), [])) (.ite ((iGe h 0) == true) (.ite ((iGe h 0) == true) (.ite ((iGe h 0) == true) (.ite (iGe h 0) (.ite (bNot (iLe h 9000)) (.ret ((.tup [(.v (.int .i64 (.ofNat 0))), (.v (.int .i64 (.ofNat 0))), (.v (.int .i64 (.ofNat 1)))]), [])) (.ite (atG c x.temp h) (.ite (iLe (Sp.tempAt c x.temp h) 0) (.ret ((.tup [(.v (.int .i64 x.rain)), (.v (.int .i64 (.ofNat 0))), (.v (.int .i64 (.ofNat 0)))]), [])) (.ret ((.tup [(.v (.int .i64 (.ofNat 0))), (.v (.int .i64 x.rain)), (.v (.int .i64 (.ofNat 0)))]), []))) .fail)) .fail) .fail) .fail) (.ite ((iGe h 0) == true) .fail (.ite ((iGe h 0) == true) .fail (.ite (iGe h 0) .fail (.ret ((.tup [(.v (.int .i64 (.ofNat 0))), (.v (.int .i64 (.ofNat 0))), (.v (.int .i64 (.ofNat 1)))]), []))))))))) (by kernel_rfl)
    (sB (fun b0 => have a0 := b0; have p0 := iNe_t a0; (sOk ⟨_, rfl, by first | exact Snow_no (by assumption) | exact Snow_w (by assumption) (by assumption) | exact Snow_bad (by assumption) (by assumption) (by omega) | exact Snow_cold (by assumption) (by assumption) (by omega) (by assumption) | exact Snow_warm (by assumption) (by assumption) (by omega) (by assumption)⟩)) (fun b0 => have a0 := b0; have p0 := iNe_f a0; (sB (fun b1 => have a1 := (unT b1); have p1 := id_f a1; (sOk ⟨_, rfl, by first | exact Snow_no (by assumption) | exact Snow_w (by assumption) (by assumption) | exact Snow_bad (by assumption) (by assumption) (by omega) | exact Snow_cold (by assumption) (by assumption) (by omega) (by assumption) | exact Snow_warm (by assumption) (by assumption) (by omega) (by assumption)⟩)) (fun b1 => have a1 := (unF b1); have p1 := id_t a1; (sB (fun b2 => have a2 := (uqT b2); have p2 := iGe_t a2; (sT (eqT a2) (sT (eqT a2) (sT a2 (sB (fun b3 => have a3 := (unT b3); have p3 := iLe_f a3; (sOk ⟨_, rfl, by first | exact Snow_no (by assumption) | exact Snow_w (by assumption) (by assumption) | exact Snow_bad (by assumption) (by assumption) (by omega) | exact Snow_cold (by assumption) (by assumption) (by omega) (by assumption) | exact Snow_warm (by assumption) (by assumption) (by omega) (by assumption)⟩)) (fun b3 => have a3 := (unF b3); have p3 := iLe_t a3; (sT (F0 p0 p1 p2 p3) (sB (fun b4 => have a4 := b4; have p4 := iLe_t a4; (sOk ⟨_, rfl, by first | exact Snow_no (by assumption) | exact Snow_w (by assumption) (by assumption) | exact Snow_bad (by assumption) (by assumption) (by omega) | exact Snow_cold (by assumption) (by assumption) (by omega) (by assumption) | exact Snow_warm (by assumption) (by assumption) (by omega) (by assumption)⟩)) (fun b4 => have a4 := b4; have p4 := iLe_f a4; (sOk ⟨_, rfl, by first | exact Snow_no (by assumption) | exact Snow_w (by assumption) (by assumption) | exact Snow_bad (by assumption) (by assumption) (by omega) | exact Snow_cold (by assumption) (by assumption) (by omega) (by assumption) | exact Snow_warm (by assumption) (by assumption) (by omega) (by assumption)⟩)))))))))) (fun b2 => have a2 := (uqT' b2); have p2 := iGe_f a2; (sF (eqT' a2) (sF (eqT' a2) (sF a2 (sOk ⟨_, rfl, by first | exact Snow_no (by assumption) | exact Snow_w (by assumption) (by assumption) | exact Snow_bad (by assumption) (by assumption) (by omega) | exact Snow_cold (by assumption) (by assumption) (by omega) (by assumption) | exact Snow_warm (by assumption) (by assumption) (by omega) (by assumption)⟩)))))))))))
theorem RMelt_calls (c : Sp.Cl) (x : Sp.W) (h f : Int) (w : World) : Calls Tryz.prog 36 #[vC c, vW x, .int .i64 h, .int .i64 f] w fun e w' => e = .returned (.tuple #[.int .i64 (mV c x h f), .int .i64 (mE c x h f)]) ∧ Below w.heap.size w w' := by
  have F0 : ckC c = 0 → okWB c x = true → h ≥ 0 → h ≤ 9000 → atG c x.temp h = true := atG_of
  exact ev_there (n := 6) (args := [cA c, wA x, iv h, iv f]) (us := [vC c, vW x, .int .i64 h, .int .i64 f]) w (OR_sound w) rfl (T.sat_cutx (g := (.left (.left (.left (.left (.both .leaf (.left (.left (.left (.both .leaf (.left (.both (.kt (.kt (.kt (.both (.kt (.left (.both (.kt (.kt (.kt (.kt (.kf (.both .leaf (.left (.left (.left (.left (.left (.left (.left (.kt (.right .leaf))))))))))))))) (.kf (.kf (.kf (.kt (.kf (.left .leaf))))))))) (.kf (.kf (.kt (.left .leaf)))))))) (.kf (.kf (.kf (.right (.right (.right (.left (.left .leaf)))))))))))))))))))) (t' := (.ite (iNe (ckC c) 0) (.ret ((.tup [(.v (.int .i64 (.ofNat 0))), (.v (.int .i64 (.ofNat 61)))]), [])) (.ite (bNot (okWB c x)) (.ret ((.tup [(.v (.int .i64 (.ofNat 0))), (.v (.int .i64 (.ofNat 60)))]), [])) (.ite ((iGe h 0) == true) (.ite ((iGe h 0) == true) (.ite ((iGe h 0) == true) (.ite (iGe h 0) (.ite ((bNot (iLe h 9000)) == false) (.ite ((bNot (iLe h 9000)) == false) (.ite ((iGe f 0) == true) (.ite ((iGe f 0) == true) (.ite ((iGe f 0) == true) (.ite (iGe f 0) (.ite ((bNot (iLe h 9000)) == false) (.ite (bNot (iLe h 9000)) .fail (.ite (bNot (iLe f 2000)) (.ret ((.tup [(.v (.int .i64 (.ofNat 0))), (.v (.int .i64 (.ofNat 1)))]), [])) (.ite (atG c x.temp h) (.ret ((.tup [(.v (.int .i64 (iQuo .i64 (iMul .i64 f (iMax 0 (Sp.tempAt c x.temp h))) 1000))), (.v (.int .i64 (.ofNat 0)))]), [])) .fail))) .fail) .fail) .fail) .fail) (.ite ((iGe f 0) == true) .fail (.ite ((iGe f 0) == true) .fail (.ite (iGe f 0) .fail (.ite ((bNot (iLe h 9000)) == false) (.ite (bNot (iLe h 9000)) .fail (.ret ((.tup [(.v (.int .i64 (.ofNat 0))), (.v (.int .i64 (.ofNat 1)))]), []))) .fail))))) .fail) (.ite ((bNot (iLe h 9000)) == false) .fail (.ite ((bNot (iLe h 9000)) == false) .fail (.ite (bNot (iLe h 9000)) (.ret ((.tup [(.v (.int .i64 (.ofNat 0))), (.v (.int .i64 (.ofNat 1)))]), [])) .fail)))) .fail) .fail) .fail) (.ite ((iGe h 0) == true) .fail (.ite ((iGe h 0) == true) .fail (.ite (iGe h 0) .fail (.ret ((.tup [(.v (.int .i64 (.ofNat 0))), (.v (.int .i64 (.ofNat 1)))]), []))))))))) (by kernel_rfl)
    (sB (fun b0 => have a0 := b0; have p0 := iNe_t a0; (sOk ⟨_, rfl, by first | exact Melt_no (by assumption) | exact Melt_w (by assumption) (by assumption) | exact Melt_bad (by assumption) (by assumption) (by omega) | exact Melt_ok (by assumption) (by assumption) (by omega)⟩)) (fun b0 => have a0 := b0; have p0 := iNe_f a0; (sB (fun b1 => have a1 := (unT b1); have p1 := id_f a1; (sOk ⟨_, rfl, by first | exact Melt_no (by assumption) | exact Melt_w (by assumption) (by assumption) | exact Melt_bad (by assumption) (by assumption) (by omega) | exact Melt_ok (by assumption) (by assumption) (by omega)⟩)) (fun b1 => have a1 := (unF b1); have p1 := id_t a1; (sB (fun b2 => have a2 := (uqT b2); have p2 := iGe_t a2; (sT (eqT a2) (sT (eqT a2) (sT a2 (sB (fun b3 => have a3 := (unF (uqF b3)); have p3 := iLe_t a3; (sT (eqF (noF a3)) (sB (fun b4 => have a4 := (uqT b4); have p4 := iGe_t a4; (sT (eqT a4) (sT (eqT a4) (sT a4 (sT (eqF (noF a3)) (sF (noF a3) (sB (fun b5 => have a5 := (unT b5); have p5 := iLe_f a5; (sOk ⟨_, rfl, by first | exact Melt_no (by assumption) | exact Melt_w (by assumption) (by assumption) | exact Melt_bad (by assumption) (by assumption) (by omega) | exact Melt_ok (by assumption) (by assumption) (by omega)⟩)) (fun b5 => have a5 := (unF b5); have p5 := iLe_t a5; (sT (F0 p0 p1 p2 p3) (sOk ⟨_, rfl, by first | exact Melt_no (by assumption) | exact Melt_w (by assumption) (by assumption) | exact Melt_bad (by assumption) (by assumption) (by omega) | exact Melt_ok (by assumption) (by assumption) (by omega)⟩)))))))))) (fun b4 => have a4 := (uqT' b4); have p4 := iGe_f a4; (sF (eqT' a4) (sF (eqT' a4) (sF a4 (sT (eqF (noF a3)) (sF (noF a3) (sOk ⟨_, rfl, by first | exact Melt_no (by assumption) | exact Melt_w (by assumption) (by assumption) | exact Melt_bad (by assumption) (by assumption) (by omega) | exact Melt_ok (by assumption) (by assumption) (by omega)⟩)))))))))) (fun b3 => have a3 := (unT (uqF' b3)); have p3 := iLe_f a3; (sF (eqF' (noT a3)) (sF (eqF' (noT a3)) (sT (noT a3) (sOk ⟨_, rfl, by first | exact Melt_no (by assumption) | exact Melt_w (by assumption) (by assumption) | exact Melt_bad (by assumption) (by assumption) (by omega) | exact Melt_ok (by assumption) (by assumption) (by omega)⟩)))))))))) (fun b2 => have a2 := (uqT' b2); have p2 := iGe_f a2; (sF (eqT' a2) (sF (eqT' a2) (sF a2 (sOk ⟨_, rfl, by first | exact Melt_no (by assumption) | exact Melt_w (by assumption) (by assumption) | exact Melt_bad (by assumption) (by assumption) (by omega) | exact Melt_ok (by assumption) (by assumption) (by omega)⟩)))))))))))
section
variable [Base]
theorem o30_ok : OraOk Tryz.prog 30 o29 := by
  intro args Q E us h hv w hI
  unfold o29 at h
  split at h
  · simp only [VRs] at hv
    obtain ⟨u1, r1, e1, v1, u2, r2, rfl, v2, u3, r3, rfl, v3, rfl⟩ := hv
    rw [T.sat_bind] at h
    obtain ⟨c, rfl, h⟩ := dCl_sat h v1
    rw [T.sat_bind] at h
    obtain ⟨t, rfl, h⟩ := dI_sat h v2
    rw [T.sat_bind] at h
    obtain ⟨n, rfl, h⟩ := dI_sat h v3
    obtain rfl : us = #[vC c, .int .i64 t, .int .i64 n] := Array.ext' e1
    exact (RAt_calls c t n w).mono fun e w' ⟨he, hb⟩ => ⟨_, _, he, h, rfl, hb⟩
  · exact h.elim
theorem o32_ok : OraOk Tryz.prog 32 o31 := by
  intro args Q E us h hv w hI
  unfold o31 at h
  split at h
  · simp only [VRs] at hv
    obtain ⟨u1, r1, e1, v1, u2, r2, rfl, v2, rfl⟩ := hv
    rw [T.sat_bind] at h
    obtain ⟨c, rfl, h⟩ := dCl_sat h v1
    rw [T.sat_bind] at h
    obtain ⟨t, rfl, h⟩ := dI_sat h v2
    obtain rfl : us = #[vC c, .int .i64 t] := Array.ext' e1
    exact (RFrost_calls c t w).mono fun e w' ⟨he, hb⟩ => ⟨_, _, he, h, rfl, hb⟩
  · exact h.elim
theorem o34_ok : OraOk Tryz.prog 34 o33 := by
  intro args Q E us h hv w hI
  unfold o33 at h
  split at h
  · simp only [VRs] at hv
    obtain ⟨u1, r1, e1, v1, u2, r2, rfl, v2, u3, r3, rfl, v3, rfl⟩ := hv
    rw [T.sat_bind] at h
    obtain ⟨c, rfl, h⟩ := dCl_sat h v1
    rw [T.sat_bind] at h
    obtain ⟨x, rfl, h⟩ := dW_sat h v2
    rw [T.sat_bind] at h
    obtain ⟨n, rfl, h⟩ := dI_sat h v3
    obtain rfl : us = #[vC c, vW x, .int .i64 n] := Array.ext' e1
    exact (RSnow_calls c x n w).mono fun e w' ⟨he, hb⟩ => ⟨_, _, he, h, rfl, hb⟩
  · exact h.elim
theorem o36_ok : OraOk Tryz.prog 36 o35 := by
  intro args Q E us h hv w hI
  unfold o35 at h
  split at h
  · simp only [VRs] at hv
    obtain ⟨u1, r1, e1, v1, u2, r2, rfl, v2, u3, r3, rfl, v3, u4, r4, rfl, v4, rfl⟩ := hv
    rw [T.sat_bind] at h
    obtain ⟨c, rfl, h⟩ := dCl_sat h v1
    rw [T.sat_bind] at h
    obtain ⟨x, rfl, h⟩ := dW_sat h v2
    rw [T.sat_bind] at h
    obtain ⟨n, rfl, h⟩ := dI_sat h v3
    rw [T.sat_bind] at h
    obtain ⟨f, rfl, h⟩ := dI_sat h v4
    obtain rfl : us = #[vC c, vW x, .int .i64 n, .int .i64 f] := Array.ext' e1
    exact (RMelt_calls c x n f w).mono fun e w' ⟨he, hb⟩ => ⟨_, _, he, h, rfl, hb⟩
  · exact h.elim
end
end Go.Proofs.YtnpggmdpokcakaaGreatDoor
