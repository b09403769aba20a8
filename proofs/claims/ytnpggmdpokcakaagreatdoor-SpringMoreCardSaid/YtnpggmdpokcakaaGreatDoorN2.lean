/- Slices that came in, as oracles read them; Release. -/
import Derived.Test.YtnpggmdpokcakaaGreatDoorN0
import Derived.Test.YtnpggmdpokcakaaGreatDoorB4
set_option linter.unusedVariables false
set_option linter.unusedSimpArgs false
set_option linter.unnecessarySimpa false
set_option linter.unusedSectionVars false
namespace Go.Proofs.YtnpggmdpokcakaaGreatDoor
open Go Go.RowKit AM
theorem Rd.kept {α : Type} {enc : α → List Value} {sz : Nat} {W w : World} {A : Option Addr} {l : List α} (h : Rd enc sz W A l) (hk : Kept W w) : Rd enc sz w A l :=
  ⟨h.1, fun i hi => by
    obtain ⟨b, off, e, hlt, hc⟩ := h.2 i hi
    exact ⟨b, off, e, Nat.lt_of_lt_of_le hlt hk.size, fun j v hv => (hk.cell hlt).trans (hc j v hv)⟩⟩
theorem lW_inj {x y : Sp.W} (h : ∀ (j : Nat) (v : Value), (lW x)[j]? = some v → (lW y)[j]? = some v) : x = y := by
  have h0 := h 0 _ rfl
  have h1 := h 1 _ rfl
  have h2 := h 2 _ rfl
  simp only [lW, List.getElem?_cons_zero, List.getElem?_cons_succ, Option.some.injEq, Value.int.injEq, true_and] at h0 h1 h2
  cases x; cases y
  simp_all
theorem Rd.unique {W : World} {A : Option Addr} {l m : List Sp.W} (h : Rd lW 3 W A l) (k : Rd lW 3 W A m) (e : l.length = m.length) : l = m := by
  refine List.ext_getElem e fun i h1 h2 => lW_inj fun j v hv => ?_
  obtain ⟨b, off, ea, _, hc⟩ := h.2 i h1
  obtain ⟨b', off', ea', _, hc'⟩ := k.2 i h2
  rw [ea] at ea'
  injection ea' with ea'
  injection ea' with e1 e2
  subst e1 e2
  have h3 := hc j v hv
  have hj : j < (lW m[i]).length := by
    have := (List.getElem?_eq_some_iff.1 hv).1
    simpa [lW] using this
  have h4 := hc' j _ (List.getElem?_eq_getElem hj)
  rw [h3] at h4
  rw [List.getElem?_eq_getElem hj, Option.some.inj h4]
open Classical in
noncomputable def okRd (W : World) (A : Option Addr) (n : Nat) : Bool := decide (∃ l : List Sp.W, l.length = n ∧ Rd lW 3 W A l)
open Classical in
noncomputable def rdL (W : World) (A : Option Addr) (n : Nat) : List Sp.W := if h : ∃ l : List Sp.W, l.length = n ∧ Rd lW 3 W A l then h.choose else []
theorem rdL_spec {W : World} {A : Option Addr} {n : Nat} (h : okRd W A n = true) : (rdL W A n).length = n ∧ Rd lW 3 W A (rdL W A n) := by
  unfold okRd at h
  have h := @of_decide_eq_true _ (Classical.propDecidable _) h
  unfold rdL
  rw [dif_pos h]
  exact h.choose_spec
theorem okRd_of {W : World} {A : Option Addr} {l : List Sp.W} (h : Rd lW 3 W A l) : okRd W A l.length = true := by
  unfold okRd
  exact @decide_eq_true _ (Classical.propDecidable _) ⟨l, rfl, h⟩
theorem rdL_of {W : World} {A : Option Addr} {l : List Sp.W} (h : Rd lW 3 W A l) : rdL W A l.length = l := by
  have h1 := rdL_spec (okRd_of h)
  exact h1.2.unique h h1.1
noncomputable def dLog (W : World) (a : AV) : T (List Sp.W) := match a with
  | .v (.slice A n _) => T.guard (okRd W A n) (.ret (rdL W A n))
  | _ => .fail
variable [Base]
theorem dLog_sat {E : Env} {W w : World} {a : AV} {u : Value} {Q : List Sp.W → Prop} (h : (dLog W a).sat Q) (hv : VR E a u) (hk : Kept W w) : ∃ A l cap, u = .slice A l.length cap ∧ Rd lW 3 w A l ∧ Q l := by
  unfold dLog at h
  split at h
  · rename_i A n cap
    obtain ⟨h0, h⟩ := T.sat_guard h
    simp only [VR] at hv
    have h1 := rdL_spec h0
    exact ⟨A, rdL W A n, cap, by rw [hv, h1.1], h1.2.kept hk, h⟩
  · exact h.elim
/-! ### Release -/
def rC (c : Sp.Cl) (no : Int) (l : List Sp.W) (h s f d : Int) : Int := if ckS c no l = 0 then if falseIn (relB l h s f d) = false then (relGo c h f d l 0 s).1 else 0 else 0
def rL (c : Sp.Cl) (no : Int) (l : List Sp.W) (h s f d : Int) : Int := if ckS c no l = 0 then if falseIn (relB l h s f d) = false then (relGo c h f d l 0 s).2 else 0 else 0
def rE (c : Sp.Cl) (no : Int) (l : List Sp.W) (h s f d : Int) : Int := if ckS c no l = 0 then if falseIn (relB l h s f d) = false then 0 else 1 else ckS c no l
theorem Release_opq (c : Sp.Cl) (no : Int) (A : Option Addr) (cap : Nat) (l : List Sp.W) (h s f d : Int) (w : World) (hr : Rd lW 3 w A l) :
    Calls Tryz.prog 45 #[vC c, .agg #[.int .i64 no, .slice A l.length cap], .int .i64 h, .int .i64 s, .int .i64 f, .int .i64 d] w fun e w' => e = .returned (.tuple #[.int .i64 (rC c no l h s f d), .int .i64 (rL c no l h s f d), .int .i64 (rE c no l h s f d)]) ∧ Below w.heap.size w w' := by
  by_cases hc : ckS c no l = 0
  · refine (Release_ok c no A cap l h s f d w hr hc).mono ?_
    rintro e w' ⟨rfl, hb⟩
    refine ⟨?_, hb⟩
    unfold rC rL rE
    rw [if_pos hc, if_pos hc, if_pos hc]
    split <;> rfl
  · refine (Release_bad c no A cap l h s f d w hr hc).mono ?_
    rintro e w' ⟨rfl, hb⟩
    refine ⟨?_, hb⟩
    unfold rC rL rE
    rw [if_neg hc, if_neg hc, if_neg hc]
noncomputable def o45 (W : World) (args : List AV) : T AV := match args with
  | [a, b, h, s, f, d] => (dCl a).bind fun c => (dAgg b).bind fun xs => match xs with
    | [x, y] => (dI x).bind fun no => (dLog W y).bind fun l => (dI h).bind fun h => (dI s).bind fun s => (dI f).bind fun f => (dI d).bind fun d =>
      .ret (.tup [.v (.int .i64 (rC c no l h s f d)), .v (.int .i64 (rL c no l h s f d)), .v (.int .i64 (rE c no l h s f d))])
    | _ => .fail
  | _ => .fail
theorem o45_ok {W : World} (hB : ∀ w, Base.I w → Kept W w) : OraOk Tryz.prog 45 (o45 W) := by
  intro args Q E us h hv w hI
  unfold o45 at h
  split at h
  · simp only [VRs] at hv
    obtain ⟨u1, r1, e1, v1, u2, r2, rfl, v2, u3, r3, rfl, v3, u4, r4, rfl, v4, u5, r5, rfl, v5, u6, r6, rfl, v6, rfl⟩ := hv
    rw [T.sat_bind] at h
    obtain ⟨c, rfl, h⟩ := dCl_sat h v1
    rw [T.sat_bind] at h
    obtain ⟨xs, cs, rfl, hxs, h⟩ := dAgg_sat h v2
    split at h
    · simp only [VRs] at hxs
      obtain ⟨y1, z1, g1, x1, y2, z2, rfl, x2, rfl⟩ := hxs
      rw [T.sat_bind] at h
      obtain ⟨no, rfl, h⟩ := dI_sat h x1
      rw [T.sat_bind] at h
      obtain ⟨A, l, cap, rfl, hr, h⟩ := dLog_sat h x2 (hB w hI)
      rw [T.sat_bind] at h
      obtain ⟨n3, rfl, h⟩ := dI_sat h v3
      rw [T.sat_bind] at h
      obtain ⟨n4, rfl, h⟩ := dI_sat h v4
      rw [T.sat_bind] at h
      obtain ⟨n5, rfl, h⟩ := dI_sat h v5
      rw [T.sat_bind] at h
      obtain ⟨n6, rfl, h⟩ := dI_sat h v6
      obtain rfl : cs = #[.int .i64 no, .slice A l.length cap] := Array.ext' g1
      obtain rfl : us = #[vC c, .agg #[.int .i64 no, .slice A l.length cap], .int .i64 n3, .int .i64 n4, .int .i64 n5, .int .i64 n6] := Array.ext' e1
      exact (Release_opq c no A cap l n3 n4 n5 n6 w hr).mono fun e w' ⟨he, hb⟩ => ⟨_, _, he, h, rfl, hb⟩
    · exact h.elim
  · exact h.elim
end Go.Proofs.YtnpggmdpokcakaaGreatDoor
