/- Contracts of package spring: what is asked of a climate; heights. -/
import Derived.Test.YtnpggmdpokcakaaGreatDoorA3
namespace Go.Proofs.YtnpggmdpokcakaaGreatDoor
open Go.RowKit

/-- Where the first element is that fulfils p; -1: nowhere. -/
def idxP {α : Type} (p : α → Bool) : List α → Int
  | [] => -1
  | x :: l => if p x = true then 0 else if idxP p l < 0 then -1 else idxP p l + 1
theorem idxP_hit {α : Type} (p : α → Bool) : ∀ (l : List α) (k : Nat) (hk : k < l.length), (∀ j (h : j < k), p (l[j]'(by omega)) = false) → p l[k] = true → idxP p l = k := by
  intro l
  induction l with
  | nil => intro k hk; simp at hk
  | cons x l ih =>
    intro k hk hn hp
    cases k with
    | zero => simp [idxP]; intro h; simp at hp; rw [hp] at h; cases h
    | succ k =>
      have h0 := hn 0 (by omega)
      simp at h0
      have h1 := ih k (by simpa using hk) (fun j hj => by have := hn (j + 1) (by omega); simpa using this) (by simpa using hp)
      simp only [idxP, h0, h1]
      simp
      omega
theorem idxP_miss {α : Type} (p : α → Bool) : ∀ (l : List α), (∀ j (h : j < l.length), p l[j] = false) → idxP p l = -1 := by
  intro l
  induction l with
  | nil => intro _; rfl
  | cons x l ih =>
    intro h
    have h0 := h 0 (by simp)
    simp at h0
    simp [idxP, h0, ih (fun j hj => by have := h (j + 1) (by simpa using hj); simpa using this)]
theorem idxP_nonneg {α : Type} (p : α → Bool) (l : List α) : 0 ≤ idxP p l ↔ l.any p = true := by
  induction l with
  | nil => simp [idxP]
  | cons x l ih =>
    simp only [idxP, List.any_cons, Bool.or_eq_true]
    cases hx : p x with
    | true => simp
    | false =>
      simp only [Bool.false_eq_true, if_false, false_or, ← ih]
      split <;> omega
def lB (b : Bool) : List Value := [.bool b]
theorem Rd.atB {w : World} {A : Option Addr} {l : List Bool} (h : Rd lB 1 w A l) {k : Nat} (hk : k < l.length) : ∃ b off, A = some ⟨b, off, none⟩ ∧ b < w.heap.size ∧ w.cell? ⟨b, off + k, none⟩ = some (.bool l[k]) := by
  obtain ⟨b, off, e, hlt, hc⟩ := h.2 k hk
  exact ⟨b, off, e, hlt, by simpa using hc 0 _ rfl⟩
theorem rd_news {α : Type} {enc : α → List Value} {sz : Nat} {W : World} {g : Nat} (hg : g = W.heap.size) (l : List α) (t : TypeId) (hn : l.length ≤ 281474976710656)
    (h : ∀ i (hi : i < l.length) j v, (enc l[i])[j]? = some v → (l.flatMap enc)[i * sz + j]? = some v) : Rd enc sz (W.alloc (.cells (l.flatMap enc).toArray t)) (some ⟨g, 0, none⟩) l := by
  subst hg
  refine ⟨hn, fun i hi => ⟨_, _, rfl, by simp, fun j v hv => ?_⟩⟩
  rw [box_cell (box_new W _)]
  simpa using h i hi j v hv
theorem rdB1 {W : World} {g : Nat} (hg : g = W.heap.size) (a : Bool) (t : TypeId) : Rd lB 1 (W.alloc (.cells #[.bool a] t)) (some ⟨g, 0, none⟩) [a] :=
  rd_news (enc := lB) hg [a] t (by simp) (fun i hi j v hv => by
    have : i = 0 := by simpa using hi
    subst this
    simpa [lB] using hv)
theorem rdB2 {W : World} {g : Nat} (hg : g = W.heap.size) (a b : Bool) (t : TypeId) : Rd lB 1 (W.alloc (.cells #[.bool a, .bool b] t)) (some ⟨g, 0, none⟩) [a, b] :=
  rd_news (enc := lB) hg [a, b] t (by simp) (fun i hi j v hv => by
    have : i = 0 ∨ i = 1 := by simp at hi; omega
    rcases this with rfl | rfl
    · cases j with
      | zero => simpa [lB] using hv
      | succ j => simp [lB] at hv
    · cases j with
      | zero => simpa [lB] using hv
      | succ j => simp [lB] at hv)
theorem IndexB_calls (A : Option Addr) (cap : Nat) (l : List Bool) (w : World) (hr : Rd lB 1 w A l) :
    Calls Tryz.prog 217 #[.slice A l.length cap, .bool false] w fun e w' => e = .returned (.int .i64 (idxP (fun b => !b) l)) ∧ w = w' := by
  have hlen := hr.1
  have HR := Lib.hid hr
  clear hr
  go_enter Tryz.func217, Tryz.ntmps217
  go_wp2_with fail
  go_loop [8] (fun i => ∃ k : Nat, k ≤ l.length ∧ i = .int .i64 k ∧ Hid (∀ j (h : j < l.length), j < k → l[j] = true)) (fun i => l.length - (intOf i).toNat)
  case atStart => exact ⟨0, Nat.zero_le _, rfl, Lib.hid (fun j _ h => absurd h (by omega))⟩
  case round =>
    obtain ⟨k, hk, rfl, HN⟩ := hrel
    by_cases hlt : k < l.length
    · obtain ⟨b, off, hA, hbk, x0⟩ := HR.out.atB hlt
      subst hA
      obtain ⟨x, hx⟩ : ∃ x, l[k] = x := ⟨_, rfl⟩
      rw [hx] at x0
      have HX := Lib.hid hx
      clear hx
      have hi0 : (0 : Int) ≤ (k : Int) := by omega
      have hi1 : (k : Int) < (l.length : Int) := by omega
      cases x with
      | false =>
        go_wp2
        go_ret
        exact ⟨ret_int (idxP_hit _ l k hlt (fun j h => by rw [HN.out j (by omega) h]; rfl) (by rw [HX.out]; rfl)).symm, rfl⟩
      | true =>
        go_wp2
        go_round
        case rel => exact ⟨k + 1, by omega, by go_num, Lib.hid (fun j hj h => by
          by_cases e : j = k
          · subst e; exact HX.out
          · exact HN.out j hj (by omega))⟩
        case measure => simp [intOf]; omega
    · go_wp2
      go_ret
      exact ⟨ret_int (idxP_miss _ l (fun j h => by rw [HN.out j h (by omega)]; rfl)).symm, rfl⟩
def falseIn (l : List Bool) : Bool := l.any fun b => !b
theorem ContainsB_calls (A : Option Addr) (cap : Nat) (l : List Bool) (w : World) (hr : Rd lB 1 w A l) :
    Calls Tryz.prog 166 #[.slice A l.length cap, .bool false] w fun e w' => e = .returned (.bool (falseIn l)) ∧ w = w' := by
  go_enter Tryz.func166, Tryz.ntmps166
  go_wp2_with (go_at_call 217; refine (IndexB_calls _ _ l _ hr).mono ?_; rintro e w' ⟨rfl, rfl⟩)
  go_ret
  exact ⟨ret_bool (by rw [Bool.eq_iff_iff]; unfold falseIn; rw [← idxP_nonneg]; simp), rfl⟩
theorem asked_calls (c : Sp.Cl) (A : Option Addr) (cap : Nat) (l : List Bool) (w : World) (hr : Rd lB 1 w A l) :
    Calls Tryz.prog 96 #[vC c, .slice A l.length cap] w fun e w' => e = .returned (.int .i64 (if Sp.okCl c then if falseIn l = true then 1 else 0 else 61)) ∧ Below w.heap.size w w' := by
  have HR := Lib.hid hr
  clear hr
  simp only [vC]
  by_cases hc : Sp.okCl c
  · rw [if_pos hc]
    cases hf : falseIn l with
    | true =>
      go_enter Tryz.func96, Tryz.ntmps96
      go_wp2_with (first | (go_at_call 23; refine (CheckClimate_ok c _ hc).mono ?_; rintro e hb1W ⟨rfl, hb1⟩; have hb1c := (bcell hb1).1) | (go_at_call 166; refine (ContainsB_calls _ _ l _ (HR.out.below (bthen (balloc (Below.refl _ _) _) (by assumption)))).mono ?_; rintro e w' ⟨rfl, rfl⟩))
      go_ret
      exact ⟨rfl, (by repeat (first | exact Below.refl _ _ | refine balloc ?_ _ | refine bdrewN ?_ _ | refine bdrew ?_ | refine bthen ?_ (by assumption)))⟩
    | false =>
      go_enter Tryz.func96, Tryz.ntmps96
      go_wp2_with (first | (go_at_call 23; refine (CheckClimate_ok c _ hc).mono ?_; rintro e hb1W ⟨rfl, hb1⟩; have hb1c := (bcell hb1).1) | (go_at_call 166; refine (ContainsB_calls _ _ l _ (HR.out.below (bthen (balloc (Below.refl _ _) _) (by assumption)))).mono ?_; rintro e w' ⟨rfl, rfl⟩))
      go_ret
      exact ⟨rfl, (by repeat (first | exact Below.refl _ _ | refine balloc ?_ _ | refine bdrewN ?_ _ | refine bdrew ?_ | refine bthen ?_ (by assumption)))⟩
  · rw [if_neg hc]
    go_enter Tryz.func96, Tryz.ntmps96
    go_wp2_with (go_at_call 23; refine (CheckClimate_no c _ hc).mono ?_; rintro e hb1W ⟨rfl, hb1⟩; have hb1c := (bcell hb1).1)
    go_ret
    exact ⟨rfl, (by repeat (first | exact Below.refl _ _ | refine balloc ?_ _ | refine bdrewN ?_ _ | refine bdrew ?_ | refine bthen ?_ (by assumption)))⟩
theorem Rd.drew {α : Type} {enc : α → List Value} {sz : Nat} {w : World} {A : Option Addr} {l : List α} (h : Rd enc sz w A l) : Rd enc sz w.drew A l := h
theorem asked_yes (c : Sp.Cl) (A : Option Addr) (cap : Nat) (l : List Bool) (w : World) (hr : Rd lB 1 w A l) (hc : Sp.okCl c) (hf : falseIn l = false) :
    Calls Tryz.prog 96 #[vC c, .slice A l.length cap] w fun e w' => e = .returned (.int .i64 0) ∧ Below w.heap.size w w' := by
  have h := asked_calls c A cap l w hr
  rwa [if_pos hc, hf, if_neg (by simp)] at h
theorem asked_bad (c : Sp.Cl) (A : Option Addr) (cap : Nat) (l : List Bool) (w : World) (hr : Rd lB 1 w A l) (hc : Sp.okCl c) (hf : falseIn l = true) :
    Calls Tryz.prog 96 #[vC c, .slice A l.length cap] w fun e w' => e = .returned (.int .i64 1) ∧ Below w.heap.size w w' := by
  have h := asked_calls c A cap l w hr
  rwa [if_pos hc, hf, if_pos rfl] at h
theorem asked_no (c : Sp.Cl) (A : Option Addr) (cap : Nat) (l : List Bool) (w : World) (hr : Rd lB 1 w A l) (hc : ¬ Sp.okCl c) :
    Calls Tryz.prog 96 #[vC c, .slice A l.length cap] w fun e w' => e = .returned (.int .i64 61) ∧ Below w.heap.size w w' := by
  have h := asked_calls c A cap l w hr
  rwa [if_neg hc] at h

end Go.Proofs.YtnpggmdpokcakaaGreatDoor
