/- Trees of decisions with what is known on a path. -/
import Derived.Test.YtnpggmdpokcakaaGreatDoorM3
set_option linter.unusedSectionVars false
set_option linter.unusedVariables false
set_option linter.unusedSimpArgs false
set_option linter.unnecessarySimpa false
namespace Go.Proofs.YtnpggmdpokcakaaGreatDoor.AM
open Go.RowKit
/-- Which branches of a tree are looked at: both, the one that is taken, the one that a path has decided already. -/
inductive Gx where
  | leaf
  | both (x y : Gx)
  | left (x : Gx)
  | right (y : Gx)
  | kt (x : Gx)
  | kf (y : Gx)
noncomputable def T.cutx {α : Type} (g : Gx) : T α → T α :=
  Gx.rec (motive := fun _ => T α → T α) (fun t => t)
    (fun _ _ cx cy t => T.rec (motive := fun _ => T α) (fun a => .ret a) (fun b x y _ _ => .ite b (cx x) (cy y)) .fail t)
    (fun _ cx t => T.rec (motive := fun _ => T α) (fun a => .ret a) (fun b x _ _ _ => Bool.rec .fail (cx x) b) .fail t)
    (fun _ cy t => T.rec (motive := fun _ => T α) (fun a => .ret a) (fun b _ y _ _ => Bool.rec (cy y) .fail b) .fail t)
    (fun _ cx t => T.rec (motive := fun _ => T α) (fun a => .ret a) (fun b x _ _ _ => .ite b (cx x) .fail) .fail t)
    (fun _ cy t => T.rec (motive := fun _ => T α) (fun a => .ret a) (fun b _ y _ _ => .ite b .fail (cy y)) .fail t) g
theorem T.sat_of_cutx {α : Type} {Q : α → Prop} : ∀ {g : Gx} {t : T α}, (T.cutx g t).sat Q → t.sat Q
  | .leaf, t, h => h
  | .both g1 g2, .ret a, h => h
  | .both g1 g2, .ite b x y, h => ⟨fun e => T.sat_of_cutx (g := g1) (h.1 e), fun e => T.sat_of_cutx (g := g2) (h.2 e)⟩
  | .both g1 g2, .fail, h => h
  | .left g, .ret a, h => h
  | .left g, .ite b x y, h => by
    cases b with
    | true => exact ⟨fun _ => T.sat_of_cutx (g := g) h, fun e => by cases e⟩
    | false => exact (show False from h).elim
  | .left g, .fail, h => h
  | .right g, .ret a, h => h
  | .right g, .ite b x y, h => by
    cases b with
    | false => exact ⟨fun e => (by cases e), fun _ => T.sat_of_cutx (g := g) h⟩
    | true => exact (show False from h).elim
  | .right g, .fail, h => h
  | .kt g, .ret a, h => h
  | .kt g, .ite b x y, h => ⟨fun e => T.sat_of_cutx (g := g) (h.1 e), fun e => (h.2 e).elim⟩
  | .kt g, .fail, h => h
  | .kf g, .ret a, h => h
  | .kf g, .ite b x y, h => ⟨fun e => (h.1 e).elim, fun e => T.sat_of_cutx (g := g) (h.2 e)⟩
  | .kf g, .fail, h => h
theorem T.sat_cutx {α : Type} {Q : α → Prop} {g : Gx} {t t' : T α} (e : T.cutx g t = t') (h : t'.sat Q) : t.sat Q := T.sat_of_cutx (g := g) (e ▸ h)
section
variable {α : Type} {Q : α → Prop} {b : Bool} {x y : T α}
theorem sB (hx : b = true → x.sat Q) (hy : b = false → y.sat Q) : (T.ite b x y).sat Q := ⟨hx, hy⟩
theorem sT (h : b = true) (hx : x.sat Q) : (T.ite b x .fail).sat Q := ⟨fun _ => hx, fun e => by rw [h] at e; cases e⟩
theorem sF (h : b = false) (hy : y.sat Q) : (T.ite b .fail y).sat Q := ⟨fun e => by (rw [h] at e; cases e), fun _ => hy⟩
theorem sOk {a : α} (h : Q a) : (T.ret a).sat Q := h
theorem sN (h : False) : x.sat Q := h.elim
end
/-! ### Conditions -/
theorem eqT {s : Bool} (h : s = true) : (s == true) = true := by rw [h]; rfl
theorem eqT' {s : Bool} (h : s = false) : (s == true) = false := by rw [h]; rfl
theorem eqF {s : Bool} (h : s = false) : (s == false) = true := by rw [h]; rfl
theorem eqF' {s : Bool} (h : s = true) : (s == false) = false := by rw [h]; rfl
theorem uqT {s : Bool} (h : (s == true) = true) : s = true := by cases s <;> simp_all
theorem uqT' {s : Bool} (h : (s == true) = false) : s = false := by cases s <;> simp_all
theorem uqF {s : Bool} (h : (s == false) = true) : s = false := by cases s <;> simp_all
theorem uqF' {s : Bool} (h : (s == false) = false) : s = true := by cases s <;> simp_all
theorem noT {s : Bool} (h : s = false) : bNot s = true := by rw [h]; rfl
theorem noF {s : Bool} (h : s = true) : bNot s = false := by rw [h]; rfl
theorem unT {s : Bool} (h : bNot s = true) : s = false := by cases s <;> simp_all [bNot]
theorem unF {s : Bool} (h : bNot s = false) : s = true := by cases s <;> simp_all [bNot]
section
variable {a b c d : Int}
theorem iLt_t (h : iLt a b = true) : a < b := of_decide_eq_true h
theorem iLt_f (h : iLt a b = false) : ¬ a < b := of_decide_eq_false h
theorem iLe_t (h : iLe a b = true) : a ≤ b := of_decide_eq_true h
theorem iLe_f (h : iLe a b = false) : ¬ a ≤ b := of_decide_eq_false h
theorem iGt_t (h : iGt a b = true) : a > b := of_decide_eq_true h
theorem iGt_f (h : iGt a b = false) : ¬ a > b := of_decide_eq_false h
theorem iGe_t (h : iGe a b = true) : a ≥ b := of_decide_eq_true h
theorem iGe_f (h : iGe a b = false) : ¬ a ≥ b := of_decide_eq_false h
theorem iEq_t (h : iEq a b = true) : a = b := by unfold iEq at h; simpa using h
theorem iEq_f (h : iEq a b = false) : ¬ a = b := by unfold iEq at h; simpa using h
theorem iNe_t (h : iNe a b = true) : ¬ a = b := by unfold iNe at h; simpa using h
theorem iNe_f (h : iNe a b = false) : a = b := by unfold iNe at h; simpa using h
theorem xLeGe_t (h : (!(iLe a b == iGe c d)) = true) : ¬ (a ≤ b ↔ c ≥ d) := by
  unfold iLe iGe at h
  by_cases h1 : a ≤ b <;> by_cases h2 : c ≥ d <;> simp [h1, h2] at h <;> omega
theorem xLeGe_f (h : (!(iLe a b == iGe c d)) = false) : (a ≤ b ↔ c ≥ d) := by
  unfold iLe iGe at h
  simpa using h
end
end Go.Proofs.YtnpggmdpokcakaaGreatDoor.AM
