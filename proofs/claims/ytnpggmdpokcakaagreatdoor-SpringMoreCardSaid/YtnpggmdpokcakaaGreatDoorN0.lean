/- The functions of package spring on heights, as oracles of the small machine. -/
import Derived.Test.YtnpggmdpokcakaaGreatDoorM7
import Derived.Test.YtnpggmdpokcakaaGreatDoorA6
import Derived.Test.YtnpggmdpokcakaaGreatDoorC5
set_option linter.unusedVariables false
set_option linter.unusedSimpArgs false
set_option linter.unnecessarySimpa false
namespace Go.Proofs.YtnpggmdpokcakaaGreatDoor
open Go Go.RowKit AM
def aV (c : Sp.Cl) (t h : Int) : Int := if Sp.okCl c then if (-600 ≤ t ∧ t ≤ 600) ∧ 0 ≤ h ∧ h ≤ 9000 then Sp.tempAt c t h else 0 else 0
def aE (c : Sp.Cl) (t h : Int) : Int := if Sp.okCl c then if (-600 ≤ t ∧ t ≤ 600) ∧ 0 ≤ h ∧ h ≤ 9000 then 0 else 1 else 61
theorem At_opq (c : Sp.Cl) (t h : Int) (w : World) : Calls Tryz.prog 29 #[vC c, .int .i64 t, .int .i64 h] w fun e w' => e = .returned (.tuple #[.int .i64 (aV c t h), .int .i64 (aE c t h)]) ∧ Below w.heap.size w w' := by
  refine (At_calls c t h w).mono ?_
  rintro e w' ⟨rfl, hb⟩
  refine ⟨?_, hb⟩
  unfold aV aE
  split <;> (try split) <;> rfl
def fV (c : Sp.Cl) (t : Int) : Int := if Sp.okCl c then if -600 ≤ t ∧ t ≤ 600 then (match frost c t with | some k => (k : Int) | none => 0) else 0 else 0
def fE (c : Sp.Cl) (t : Int) : Int := if Sp.okCl c then if -600 ≤ t ∧ t ≤ 600 then (match frost c t with | some _ => 0 | none => 4) else 1 else 61
theorem Frost_opq (c : Sp.Cl) (t : Int) (w : World) : Calls Tryz.prog 31 #[vC c, .int .i64 t] w fun e w' => e = .returned (.tuple #[.int .i64 (fV c t), .int .i64 (fE c t)]) ∧ Below w.heap.size w w' := by
  refine (Frost_calls c t w).mono ?_
  rintro e w' ⟨rfl, hb⟩
  refine ⟨?_, hb⟩
  unfold fV fE frostV
  split
  · split
    · cases frost c t <;> rfl
    · rfl
  · rfl
def sS (c : Sp.Cl) (x : Sp.W) (h : Int) : Int := if Sp.okCl c then if Sp.okW c x then if 0 ≤ h ∧ h ≤ 9000 then Sp.snow c x h else 0 else 0 else 0
def sR (c : Sp.Cl) (x : Sp.W) (h : Int) : Int := if Sp.okCl c then if Sp.okW c x then if 0 ≤ h ∧ h ≤ 9000 then Sp.wetn c x h else 0 else 0 else 0
def sE (c : Sp.Cl) (x : Sp.W) (h : Int) : Int := if Sp.okCl c then if Sp.okW c x then if 0 ≤ h ∧ h ≤ 9000 then 0 else 1 else 60 else 61
theorem Snow_opq (c : Sp.Cl) (x : Sp.W) (h : Int) (w : World) : Calls Tryz.prog 33 #[vC c, vW x, .int .i64 h] w fun e w' => e = .returned (.tuple #[.int .i64 (sS c x h), .int .i64 (sR c x h), .int .i64 (sE c x h)]) ∧ Below w.heap.size w w' := by
  refine (Snow_calls c x h w).mono ?_
  rintro e w' ⟨rfl, hb⟩
  refine ⟨?_, hb⟩
  unfold sS sR sE
  split <;> (try split) <;> (try split) <;> rfl
def mV (c : Sp.Cl) (x : Sp.W) (h f : Int) : Int := if Sp.okCl c then if Sp.okW c x then if (0 ≤ h ∧ h ≤ 9000) ∧ 0 ≤ f ∧ f ≤ 2000 then Sp.melt c x h f else 0 else 0 else 0
def mE (c : Sp.Cl) (x : Sp.W) (h f : Int) : Int := if Sp.okCl c then if Sp.okW c x then if (0 ≤ h ∧ h ≤ 9000) ∧ 0 ≤ f ∧ f ≤ 2000 then 0 else 1 else 60 else 61
theorem Melt_opq (c : Sp.Cl) (x : Sp.W) (h f : Int) (w : World) : Calls Tryz.prog 35 #[vC c, vW x, .int .i64 h, .int .i64 f] w fun e w' => e = .returned (.tuple #[.int .i64 (mV c x h f), .int .i64 (mE c x h f)]) ∧ Below w.heap.size w w' := by
  refine (Melt_calls c x h f w).mono ?_
  rintro e w' ⟨rfl, hb⟩
  refine ⟨?_, hb⟩
  unfold mV mE
  split <;> (try split) <;> (try split) <;> rfl
/-! ### Reading -/
noncomputable def dCl (a : AV) : T Sp.Cl := (dAgg a).bind fun xs => (dIs xs).bind fun ns => match ns with
  | [a0, a1, a2, a3, a4, a5, a6, a7] => .ret ⟨a0, a1, a2, a3, a4, a5, a6, a7⟩
  | _ => .fail
variable [Base]
theorem dCl_sat {E : Env} {a : AV} {u : Value} {Q : Sp.Cl → Prop} (h : (dCl a).sat Q) (hv : VR E a u) : ∃ c, u = vC c ∧ Q c := by
  unfold dCl at h
  rw [T.sat_bind] at h
  obtain ⟨xs, cs, rfl, hvs, h⟩ := dAgg_sat h hv
  rw [T.sat_bind] at h
  obtain ⟨ns, hns, h⟩ := dIs_sat h hvs
  split at h
  · rename_i a0 a1 a2 a3 a4 a5 a6 a7
    exact ⟨⟨a0, a1, a2, a3, a4, a5, a6, a7⟩, congrArg Value.agg (Array.ext' hns), h⟩
  · exact h.elim
noncomputable def dW (a : AV) : T Sp.W := (dAgg a).bind fun xs => (dIs xs).bind fun ns => match ns with
  | [a0, a1, a2] => .ret ⟨a0, a1, a2⟩
  | _ => .fail
theorem dW_sat {E : Env} {a : AV} {u : Value} {Q : Sp.W → Prop} (h : (dW a).sat Q) (hv : VR E a u) : ∃ c, u = vW c ∧ Q c := by
  unfold dW at h
  rw [T.sat_bind] at h
  obtain ⟨xs, cs, rfl, hvs, h⟩ := dAgg_sat h hv
  rw [T.sat_bind] at h
  obtain ⟨ns, hns, h⟩ := dIs_sat h hvs
  split at h
  · rename_i a0 a1 a2
    exact ⟨⟨a0, a1, a2⟩, congrArg Value.agg (Array.ext' hns), h⟩
  · exact h.elim
/-! ### The oracles -/
def o22 (args : List AV) : T AV := match args with
  | [] => .ret (.v (.bool true))
  | _ => .fail
theorem o22_ok {Tw : World → Prop} (hs : SaneIn Tw) (hT : ∀ w, Base.I w → Tw w) : OraOk Tryz.prog 22 o22 := by
  intro args Q E us h hv w hI
  unfold o22 at h
  split at h
  · simp only [VRs] at hv
    have hus : us = #[] := Array.ext' hv
    subst hus
    exact (hs.2 w (hT w hI)).mono fun e w' ⟨he, hb⟩ => ⟨_, _, he, h, rfl, hb⟩
  · exact h.elim
noncomputable def o29 (args : List AV) : T AV := match args with
  | [a, b, d] => (dCl a).bind fun c => (dI b).bind fun t => (dI d).bind fun h => .ret (.tup [.v (.int .i64 (aV c t h)), .v (.int .i64 (aE c t h))])
  | _ => .fail
theorem o29_ok : OraOk Tryz.prog 29 o29 := by
  intro args Q E us h hv w hI
  unfold o29 at h
  split at h
  · simp only [VRs] at hv
    obtain ⟨u1, r1, e1, v1, u2, r2, rfl, v2, u3, r3, rfl, v3, rfl⟩ := hv
    rw [T.sat_bind] at h
    obtain ⟨c, rfl, h⟩ := dCl_sat h v1
    rw [T.sat_bind] at h
    obtain ⟨t, rfl, h⟩ := dI_sat h v2
    rw [T.sat_bind] at h
    obtain ⟨n, rfl, h⟩ := dI_sat h v3
    obtain rfl : us = #[vC c, .int .i64 t, .int .i64 n] := Array.ext' e1
    exact (At_opq c t n w).mono fun e w' ⟨he, hb⟩ => ⟨_, _, he, h, rfl, hb⟩
  · exact h.elim
noncomputable def o31 (args : List AV) : T AV := match args with
  | [a, b] => (dCl a).bind fun c => (dI b).bind fun t => .ret (.tup [.v (.int .i64 (fV c t)), .v (.int .i64 (fE c t))])
  | _ => .fail
theorem o31_ok : OraOk Tryz.prog 31 o31 := by
  intro args Q E us h hv w hI
  unfold o31 at h
  split at h
  · simp only [VRs] at hv
    obtain ⟨u1, r1, e1, v1, u2, r2, rfl, v2, rfl⟩ := hv
    rw [T.sat_bind] at h
    obtain ⟨c, rfl, h⟩ := dCl_sat h v1
    rw [T.sat_bind] at h
    obtain ⟨t, rfl, h⟩ := dI_sat h v2
    obtain rfl : us = #[vC c, .int .i64 t] := Array.ext' e1
    exact (Frost_opq c t w).mono fun e w' ⟨he, hb⟩ => ⟨_, _, he, h, rfl, hb⟩
  · exact h.elim
noncomputable def o33 (args : List AV) : T AV := match args with
  | [a, b, d] => (dCl a).bind fun c => (dW b).bind fun x => (dI d).bind fun h => .ret (.tup [.v (.int .i64 (sS c x h)), .v (.int .i64 (sR c x h)), .v (.int .i64 (sE c x h))])
  | _ => .fail
theorem o33_ok : OraOk Tryz.prog 33 o33 := by
  intro args Q E us h hv w hI
  unfold o33 at h
  split at h
  · simp only [VRs] at hv
    obtain ⟨u1, r1, e1, v1, u2, r2, rfl, v2, u3, r3, rfl, v3, rfl⟩ := hv
    rw [T.sat_bind] at h
    obtain ⟨c, rfl, h⟩ := dCl_sat h v1
    rw [T.sat_bind] at h
    obtain ⟨x, rfl, h⟩ := dW_sat h v2
    rw [T.sat_bind] at h
    obtain ⟨n, rfl, h⟩ := dI_sat h v3
    obtain rfl : us = #[vC c, vW x, .int .i64 n] := Array.ext' e1
    exact (Snow_opq c x n w).mono fun e w' ⟨he, hb⟩ => ⟨_, _, he, h, rfl, hb⟩
  · exact h.elim
noncomputable def o35 (args : List AV) : T AV := match args with
  | [a, b, d, k] => (dCl a).bind fun c => (dW b).bind fun x => (dI d).bind fun h => (dI k).bind fun f => .ret (.tup [.v (.int .i64 (mV c x h f)), .v (.int .i64 (mE c x h f))])
  | _ => .fail
theorem o35_ok : OraOk Tryz.prog 35 o35 := by
  intro args Q E us h hv w hI
  unfold o35 at h
  split at h
  · simp only [VRs] at hv
    obtain ⟨u1, r1, e1, v1, u2, r2, rfl, v2, u3, r3, rfl, v3, u4, r4, rfl, v4, rfl⟩ := hv
    rw [T.sat_bind] at h
    obtain ⟨c, rfl, h⟩ := dCl_sat h v1
    rw [T.sat_bind] at h
    obtain ⟨x, rfl, h⟩ := dW_sat h v2
    rw [T.sat_bind] at h
    obtain ⟨n, rfl, h⟩ := dI_sat h v3
    rw [T.sat_bind] at h
    obtain ⟨f, rfl, h⟩ := dI_sat h v4
    obtain rfl : us = #[vC c, vW x, .int .i64 n, .int .i64 f] := Array.ext' e1
    exact (Melt_opq c x n f w).mono fun e w' ⟨he, hb⟩ => ⟨_, _, he, h, rfl, hb⟩
  · exact h.elim
end Go.Proofs.YtnpggmdpokcakaaGreatDoor
