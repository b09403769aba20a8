/- A small machine that evaluates the code of the model over names in the place of addresses; that what it answers is what a call does. First part: decisions, values, memory, operations. -/
import Derived.Calls
import Derived.Below
import Derived.Laws.AppendOwn
import Derived.Laws.Entries
import Derived.Laws.MakeOwn
import Derived.Laws.Tables
import Derived.Laws.CopyRow
import Derived.Orders
import Derived.Deep.AppendLies
import Derived.WalkSpells
set_option linter.unusedSectionVars false
set_option linter.unusedVariables false
set_option linter.unusedSimpArgs false
set_option linter.unnecessarySimpa false
namespace Go.Proofs.YtnpggmdpokcakaaGreatDoor.AM
open Go.RowKit

/-! ### Decisions -/
inductive T (α : Type) where
  | ret (a : α)
  | ite (b : Bool) (x y : T α)
  | fail
noncomputable def T.bind {α β : Type} (t : T α) (f : α → T β) : T β := T.rec (motive := fun _ => T β) (fun a => f a) (fun b _ _ x y => .ite b x y) .fail t
def T.sat {α : Type} (Q : α → Prop) : T α → Prop
  | .ret a => Q a
  | .ite b x y => (b = true → x.sat Q) ∧ (b = false → y.sat Q)
  | .fail => False
noncomputable def T.run {α : Type} (t : T α) : Option α := T.rec (motive := fun _ => Option α) (fun a => some a) (fun b _ _ x y => Bool.rec y x b) none t
theorem T.run_ret {α : Type} (a : α) : (T.ret a).run = some a := rfl
theorem T.run_ite {α : Type} (b : Bool) (x y : T α) : (T.ite b x y).run = bif b then x.run else y.run := by cases b <;> rfl
theorem T.run_fail {α : Type} : (T.fail : T α).run = none := rfl
theorem T.sat_of_run {α : Type} {Q : α → Prop} {a : α} : ∀ {t : T α}, t.run = some a → Q a → t.sat Q
  | .ret _, h, hq => by injection h with h; exact h ▸ hq
  | .ite b x y, h, hq => by
    refine ⟨fun hb => ?_, fun hb => ?_⟩
    · subst hb; exact T.sat_of_run (t := x) h hq
    · subst hb; exact T.sat_of_run (t := y) h hq
  | .fail, h, _ => by cases h
theorem T.run_of_sat {α : Type} {Q : α → Prop} : ∀ {t : T α}, t.sat Q → ∃ a, t.run = some a ∧ Q a
  | .ret a, h => ⟨a, rfl, h⟩
  | .ite b x y, h => by
    cases b
    · exact T.run_of_sat (t := y) (h.2 rfl)
    · exact T.run_of_sat (t := x) (h.1 rfl)
  | .fail, h => h.elim
theorem T.sat_iff {α : Type} {Q : α → Prop} {t : T α} : t.sat Q ↔ ∃ a, t.run = some a ∧ Q a :=
  ⟨T.run_of_sat, fun ⟨_, h, hq⟩ => T.sat_of_run h hq⟩
theorem T.sat_mono {α : Type} {Q Q' : α → Prop} {t : T α} (h : t.sat Q) (hq : ∀ a, Q a → Q' a) : t.sat Q' := by
  obtain ⟨a, h1, h2⟩ := T.run_of_sat h
  exact T.sat_of_run h1 (hq a h2)
theorem T.sat_bind {α β : Type} {Q : β → Prop} {f : α → T β} : ∀ {t : T α}, (t.bind f).sat Q ↔ t.sat (fun a => (f a).sat Q)
  | .ret _ => Iff.rfl
  | .ite b x y => by
    show (b = true → (x.bind f).sat Q) ∧ (b = false → (y.bind f).sat Q) ↔ _
    rw [T.sat_bind (t := x), T.sat_bind (t := y)]
    rfl
  | .fail => Iff.rfl
theorem T.run_bind {α β : Type} {f : α → T β} : ∀ {t : T α}, (t.bind f).run = t.run.bind fun a => (f a).run
  | .ret _ => rfl
  | .ite b x y => by
    have hx := T.run_bind (t := x) (f := f)
    have hy := T.run_bind (t := y) (f := f)
    cases b
    · exact hy
    · exact hx
  | .fail => rfl

/-! ### Values -/
/-- What is known of a slice's capacity. -/
inductive Cp where
  | any
  | whole
  | ex (k : Nat)
inductive AV where
  | bot
  | v (x : Value)
  | ptr (n off : Nat)
  | sl (n off len : Nat) (cap : Cp)
  | agg (xs : List AV)
  | tup (xs : List AV)
  | fn (f : Fn) (first captured : List AV)
  | ifc (t : TypeId) (x : AV)
instance : Inhabited AV := ⟨.bot⟩
/-- No yield. -/
def plain : Fn → Bool
  | .yield _ => false
  | _ => true
def AV.ofFn (f : Fn) (b c : Array Value) : AV := bif plain f then .fn f (b.toList.map .v) (c.toList.map .v) else .bot
def AV.ofCell : Value → AV
  | .func f b c => .ofFn f b c
  | x => .v x
def AV.of : Value → AV
  | .agg cs => .agg (cs.toList.map .v)
  | .func f b c => .ofFn f b c
  | x => .v x
/-- One cell. -/
def AV.one : AV → Bool
  | .v x => x.oneCell'
  | .ptr .. | .sl .. | .fn .. | .ifc .. => true
  | _ => false
/-- It bears no name. -/
def AV.isV : AV → Bool
  | .v _ => true
  | _ => false
def AV.cells : AV → List AV
  | .agg xs => xs
  | .v (.agg cs) => cs.toList.map .v
  | a => [a]

/-- Where a name lies, and how many elements its block bears. -/
structure Ent where
  b : Nat
  off : Nat
  cap : Nat
abbrev Env := Nat → Option Ent
def Cp.fits (c : Nat) (e : Ent) (off : Nat) : Cp → Prop
  | .any => True
  | .whole => off = 0 ∧ c = e.cap
  | .ex k => c = k
/-- A yield is named by the block of its loop. -/
def FR (E : Env) (f g : Fn) : Prop :=
  match f with
  | .yield n => ∃ e, E n = some e ∧ g = .yield e.b
  | _ => g = f
mutual
def VR (E : Env) : AV → Value → Prop
  | .bot, _ => True
  | .v x, u => u = x
  | .ptr n off, u => ∃ e, E n = some e ∧ u = .pointer (some ⟨e.b, e.off + off, none⟩)
  | .sl n off len cap, u => ∃ e c, E n = some e ∧ u = .slice (some ⟨e.b, e.off + off, none⟩) len c ∧ len ≤ c ∧ cap.fits c e off
  | .agg xs, u => ∃ cs, u = .agg cs ∧ VRs E xs cs.toList
  | .tup xs, u => ∃ cs, u = .tuple cs ∧ VRs E xs cs.toList
  | .fn f b c, u => ∃ g bs cs, u = .func g bs cs ∧ FR E f g ∧ VRs E b bs.toList ∧ VRs E c cs.toList
  | .ifc t x, u => ∃ y, u = .iface t y ∧ VR E x y
def VRs (E : Env) : List AV → List Value → Prop
  | [], us => us = []
  | a :: as, us => ∃ u us', us = u :: us' ∧ VR E a u ∧ VRs E as us'
end
def Env.le (E E' : Env) : Prop := ∀ n e, E n = some e → E' n = some e
theorem Env.le_refl (E : Env) : E.le E := fun _ _ h => h
theorem Env.le_trans {A B C : Env} (h : A.le B) (k : B.le C) : A.le C := fun n e hn => k n e (h n e hn)
theorem FR.mono {E E' : Env} (hE : E.le E') {f g : Fn} (h : FR E f g) : FR E' f g := by
  cases f <;> simp only [FR] at h ⊢ <;> first | exact h | (obtain ⟨e, h1, h2⟩ := h; exact ⟨e, hE _ _ h1, h2⟩)
theorem FR.eq {E : Env} {f g : Fn} (hp : plain f = true) (h : FR E f g) : g = f := by
  cases f <;> simp only [FR] at h <;> first | exact h | cases hp
theorem FR.of {E : Env} {f : Fn} (hp : plain f = true) : FR E f f := by
  cases f <;> simp only [FR] <;> cases hp
mutual
theorem VR.mono {E E' : Env} (hE : E.le E') : ∀ {a : AV} {u : Value}, VR E a u → VR E' a u
  | .bot, _, _ => trivial
  | .v _, _, h => h
  | .ptr _ _, _, h => by
    simp only [VR] at h ⊢
    obtain ⟨e, h1, h2⟩ := h
    exact ⟨e, hE _ _ h1, h2⟩
  | .sl _ _ _ _, _, h => by
    simp only [VR] at h ⊢
    obtain ⟨e, c, h1, h2⟩ := h
    exact ⟨e, c, hE _ _ h1, h2⟩
  | .agg xs, _, h => by
    simp only [VR] at h ⊢
    obtain ⟨cs, h1, h2⟩ := h
    exact ⟨cs, h1, VRs.mono hE h2⟩
  | .tup xs, _, h => by
    simp only [VR] at h ⊢
    obtain ⟨cs, h1, h2⟩ := h
    exact ⟨cs, h1, VRs.mono hE h2⟩
  | .fn f b c, _, h => by
    simp only [VR] at h ⊢
    obtain ⟨g, bs, cs, h1, h0, h2, h3⟩ := h
    exact ⟨g, bs, cs, h1, h0.mono hE, VRs.mono hE h2, VRs.mono hE h3⟩
  | .ifc t x, _, h => by
    simp only [VR] at h ⊢
    obtain ⟨y, h1, h2⟩ := h
    exact ⟨y, h1, VR.mono hE h2⟩
theorem VRs.mono {E E' : Env} (hE : E.le E') : ∀ {as : List AV} {us : List Value}, VRs E as us → VRs E' as us
  | [], _, h => by simp only [VRs] at h ⊢; exact h
  | a :: as, _, h => by
    simp only [VRs] at h ⊢
    obtain ⟨u, us', h1, h2, h3⟩ := h
    exact ⟨u, us', h1, VR.mono hE h2, VRs.mono hE h3⟩
end
theorem VRs.length {E : Env} : ∀ {as : List AV} {us : List Value}, VRs E as us → us.length = as.length
  | [], _, h => by simp only [VRs] at h; rw [h]; rfl
  | a :: as, _, h => by
    simp only [VRs] at h
    obtain ⟨u, us', rfl, _, h3⟩ := h
    simp [VRs.length h3]
theorem VRs.get {E : Env} : ∀ {as : List AV} {us : List Value}, VRs E as us → ∀ {i : Nat} {a : AV}, as[i]? = some a → ∃ u, us[i]? = some u ∧ VR E a u
  | [], _, _, i, a, hi => by simp at hi
  | x :: as, _, h, i, a, hi => by
    simp only [VRs] at h
    obtain ⟨u, us', rfl, h2, h3⟩ := h
    cases i with
    | zero => simp only [List.getElem?_cons_zero, Option.some.injEq] at hi; subst hi; exact ⟨u, rfl, h2⟩
    | succ i => simp only [List.getElem?_cons_succ] at hi ⊢; exact VRs.get h3 hi
theorem VRs.of_get {E : Env} : ∀ {as : List AV} {us : List Value}, us.length = as.length → (∀ (i : Nat) (a : AV) (u : Value), as[i]? = some a → us[i]? = some u → VR E a u) → VRs E as us
  | [], us, h, _ => by simp only [VRs]; exact List.eq_nil_of_length_eq_zero (by simpa using h)
  | a :: as, [], h, _ => by simp at h
  | a :: as, u :: us, h, k => by
    simp only [VRs]
    exact ⟨u, us, rfl, k 0 a u rfl rfl, VRs.of_get (by simpa using h) (fun i a u h1 h2 => k (i + 1) a u h1 h2)⟩
theorem VRs.append {E : Env} : ∀ {as bs : List AV} {us vs : List Value}, VRs E as us → VRs E bs vs → VRs E (as ++ bs) (us ++ vs)
  | [], _, _, _, h, k => by simp only [VRs] at h; subst h; exact k
  | a :: as, _, _, _, h, k => by
    simp only [VRs] at h
    obtain ⟨u, us', rfl, h2, h3⟩ := h
    simp only [List.cons_append, VRs]
    exact ⟨u, _, rfl, h2, VRs.append h3 k⟩
theorem VRs.take {E : Env} {as : List AV} {us : List Value} (h : VRs E as us) (n : Nat) : VRs E (as.take n) (us.take n) :=
  VRs.of_get (by simp [h.length]) (fun i a u h1 h2 => by
    rw [List.getElem?_take] at h1 h2
    split at h1
    · rename_i hi
      rw [if_pos hi] at h2
      obtain ⟨u', h3, h4⟩ := h.get h1
      rw [h3] at h2
      injection h2 with h2
      exact h2 ▸ h4
    · cases h1)
theorem VRs.drop {E : Env} {as : List AV} {us : List Value} (h : VRs E as us) (n : Nat) : VRs E (as.drop n) (us.drop n) :=
  VRs.of_get (by simp [h.length]) (fun i a u h1 h2 => by
    rw [List.getElem?_drop] at h1 h2
    obtain ⟨u', h3, h4⟩ := h.get h1
    rw [h3] at h2
    injection h2 with h2
    exact h2 ▸ h4)
theorem VRs.set {E : Env} {as : List AV} {us : List Value} (h : VRs E as us) (n : Nat) {a : AV} {u : Value} (hv : VR E a u) : VRs E (as.set n a) (us.set n u) :=
  VRs.of_get (by simp [h.length]) (fun i a' u' h1 h2 => by
    rw [List.getElem?_set] at h1 h2
    split at h1
    · rename_i hi
      subst hi
      rw [if_pos rfl] at h2
      split at h1
      · split at h2
        · injection h1 with h1; injection h2 with h2; exact h1 ▸ h2 ▸ hv
        · cases h2
      · cases h1
    · rename_i hi
      rw [if_neg hi] at h2
      obtain ⟨u'', h3, h4⟩ := h.get h1
      rw [h3] at h2
      injection h2 with h2
      exact h2 ▸ h4)
theorem VRs.v {E : Env} : ∀ (l : List Value), VRs E (l.map .v) l
  | [] => by simp [VRs]
  | x :: l => by simp only [List.map_cons, VRs]; exact ⟨x, l, rfl, by simp [VR], VRs.v l⟩
theorem VR.ofFn (E : Env) (f : Fn) (b c : Array Value) : VR E (AV.ofFn f b c) (.func f b c) := by
  unfold AV.ofFn
  cases hp : plain f with
  | true => simp only [cond_true, VR]; exact ⟨_, _, _, rfl, FR.of hp, VRs.v _, VRs.v _⟩
  | false => simp [VR]
theorem VR.of (E : Env) (x : Value) : VR E (AV.of x) x := by
  unfold AV.of
  split
  · simp only [VR]; exact ⟨_, rfl, VRs.v _⟩
  · exact VR.ofFn E _ _ _
  · simp [VR]
theorem VR.ofCell (E : Env) (x : Value) : VR E (AV.ofCell x) x := by
  unfold AV.ofCell
  split
  · exact VR.ofFn E _ _ _
  · simp [VR]
theorem VR.one {E : Env} {a : AV} {u : Value} (h : VR E a u) (ha : a.one = true) : u.oneCell' = true := by
  cases a <;> simp only [AV.one, Bool.false_eq_true] at ha <;> simp only [VR] at h
  · rw [h]; exact ha
  · obtain ⟨e, _, rfl⟩ := h; rfl
  · obtain ⟨e, c, _, rfl, _⟩ := h; rfl
  · obtain ⟨g, b, c, rfl, _⟩ := h; rfl
  · obtain ⟨y, rfl, _⟩ := h; rfl
theorem VRs.one {E : Env} : ∀ {as : List AV} {us : List Value}, VRs E as us → as.all AV.one = true → ∀ u ∈ us, u.oneCell' = true
  | [], _, h, _, u, hu => by simp only [VRs] at h; rw [h] at hu; cases hu
  | a :: as, _, h, ha, u, hu => by
    simp only [VRs] at h
    obtain ⟨u', us', rfl, h2, h3⟩ := h
    simp only [List.all_cons, Bool.and_eq_true] at ha
    rcases List.mem_cons.1 hu with rfl | hu
    · exact h2.one ha.1
    · exact VRs.one h3 ha.2 u hu
theorem VR.cells {E : Env} {a : AV} {u : Value} (h : VR E a u) (ha : a.cells.all AV.one = true) : VRs E a.cells u.cells.toList := by
  cases a with
  | bot => simp [AV.cells, AV.one] at ha
  | v x =>
    simp only [VR] at h
    subst h
    cases u <;> simp only [AV.cells, Value.cells] <;> first | exact VRs.v _ | (simp only [VRs]; exact ⟨_, [], rfl, by simp [VR], rfl⟩)
  | agg xs => simp only [VR] at h; obtain ⟨cs, rfl, h⟩ := h; exact h
  | tup xs => simp [AV.cells, AV.one] at ha
  | ptr n off => have h' := h; simp only [VR] at h; obtain ⟨e, _, rfl⟩ := h; simp only [AV.cells, Value.cells, VRs]; exact ⟨_, [], rfl, h', rfl⟩
  | sl n off len cap => have h' := h; simp only [VR] at h; obtain ⟨e, c, _, rfl, _⟩ := h; simp only [AV.cells, Value.cells, VRs]; exact ⟨_, [], rfl, h', rfl⟩
  | fn f b c => have h' := h; simp only [VR] at h; obtain ⟨g, e, c, rfl, _⟩ := h; simp only [AV.cells, Value.cells, VRs]; exact ⟨_, [], rfl, h', rfl⟩
  | ifc t x => have h' := h; simp only [VR] at h; obtain ⟨e, rfl, _⟩ := h; simp only [AV.cells, Value.cells, VRs]; exact ⟨_, [], rfl, h', rfl⟩

/-- What is known of the world all along: something that looks at the blocks of K alone. -/
class Base where
  K : Nat → Prop
  I : World → Prop
  pres : ∀ w w' : World, (∀ b, K b → w'.heap[b]? = w.heap[b]?) → I w → I w'
variable [Base]
/-! ### Memory -/
structure AB where
  own : Bool
  flat : Bool
  elem : TypeId
  sz : Nat
  cells : List AV
abbrev Mem := List (Option AB)
structure RB (E : Env) (w : World) (ab : AB) (e : Ent) : Prop where
  flat : ab.flat = true → ∀ a ∈ ab.cells, a.isV = true
  one : ∀ a ∈ ab.cells, a.one = true
  cells : ∀ j a, ab.cells[j]? = some a → ∃ u, w.cell? ⟨e.b, e.off + j, none⟩ = some u ∧ VR E a u
  own : ab.own = true → e.off = 0 ∧ ∃ cur : Array Value, w.heap[e.b]? = some (.cells cur ab.elem (0, 0)) ∧ cur.size = e.cap * ab.sz ∧ e.cap ≤ maxLen ∧ ab.cells.length ≤ cur.size
structure R (E : Env) (M : Mem) (w : World) : Prop where
  fresh : ∀ n, M.length ≤ n → E n = none
  dom : ∀ n e, E n = some e → e.b < w.heap.size
  live : ∀ n ab, M[n]? = some (some ab) → ∃ e, E n = some e ∧ RB E w ab e
  inj : ∀ n m ab ab' e e', M[n]? = some (some ab) → M[m]? = some (some ab') → ab.own = true → n ≠ m → E n = some e → E m = some e' → e.b ≠ e'.b
  inv : Base.I w
  gle : ∀ b, Base.K b → b < w.heap.size
  base : ∀ n ab e, M[n]? = some (some ab) → ab.own = true → E n = some e → ¬ Base.K e.b
/-- What has become of a world in which M lay: only M's own blocks were written. -/
structure Step (E : Env) (M : Mem) (w : World) (E' : Env) (M' : Mem) (w' : World) : Prop where
  le : E.le E'
  old : ∀ n, n < M.length → E' n = E n
  len : M.length ≤ M'.length
  kind : ∀ n ab', M'[n]? = some (some ab') → (n < M.length → ∃ ab, M[n]? = some (some ab) ∧ ab.own = ab'.own) ∧ (M.length ≤ n → ab'.own = true)
  rel : R E' M' w'
  os : w'.os = w.os
  tape : w'.tape = w.tape
  output : w'.output = w.output
  size : w.heap.size ≤ w'.heap.size
  block : ∀ b, b < w.heap.size → (∀ n ab e, M[n]? = some (some ab) → ab.own = true → E n = some e → e.b ≠ b) → w'.heap[b]? = w.heap[b]?
  org : ∀ n ab e, M'[n]? = some (some ab) → ab.own = true → E' n = some e → w.heap.size ≤ e.b ∨ ∃ m ab', M[m]? = some (some ab') ∧ ab'.own = true ∧ ∃ e', E m = some e' ∧ e'.b = e.b
theorem get_lt {M : Mem} {n : Nat} {x : Option AB} (h : M[n]? = some x) : n < M.length := (List.getElem?_eq_some_iff.1 h).1
theorem kind_refl (M : Mem) : ∀ n ab', M[n]? = some (some ab') → (n < M.length → ∃ ab, M[n]? = some (some ab) ∧ ab.own = ab'.own) ∧ (M.length ≤ n → ab'.own = true) :=
  fun n ab' h => ⟨fun _ => ⟨ab', h, rfl⟩, fun hl => by have := get_lt h; omega⟩
theorem Step.refl {E : Env} {M : Mem} {w : World} (h : R E M w) : Step E M w E M w :=
  ⟨Env.le_refl E, fun _ _ => rfl, Nat.le_refl _, kind_refl M, h, rfl, rfl, rfl, Nat.le_refl _, fun _ _ _ => rfl, fun n ab e h1 h2 h3 => .inr ⟨n, ab, h1, h2, e, h3, rfl⟩⟩
theorem Step.trans {E E1 E2 : Env} {M M1 M2 : Mem} {w w1 w2 : World} (h : Step E M w E1 M1 w1) (k : Step E1 M1 w1 E2 M2 w2) : Step E M w E2 M2 w2 where
  le := Env.le_trans h.le k.le
  old := fun n hn => (k.old n (Nat.lt_of_lt_of_le hn h.len)).trans (h.old n hn)
  len := Nat.le_trans h.len k.len
  kind := fun n ab' hn => by
    rcases Nat.lt_or_ge n M1.length with hl | hl
    · obtain ⟨ab, h1, h2⟩ := (k.kind n ab' hn).1 hl
      have := h.kind n ab h1
      exact ⟨fun hm => let ⟨ab0, h3, h4⟩ := this.1 hm; ⟨ab0, h3, h4.trans h2⟩, fun hm => h2 ▸ this.2 hm⟩
    · exact ⟨fun hm => by have := h.len; omega, fun _ => (k.kind n ab' hn).2 hl⟩
  rel := k.rel
  os := k.os.trans h.os
  tape := k.tape.trans h.tape
  output := k.output.trans h.output
  size := Nat.le_trans h.size k.size
  block := fun b hb hn => (k.block b (Nat.lt_of_lt_of_le hb h.size) (fun n ab e h1 h2 h3 => by
    rcases h.org n ab e h1 h2 h3 with h4 | ⟨m, ab', h4, h5, e', h6, h7⟩
    · omega
    · exact h7 ▸ hn m ab' e' h4 h5 h6)).trans (h.block b hb hn)
  org := fun n ab e h1 h2 h3 => by
    rcases k.org n ab e h1 h2 h3 with h4 | ⟨m, ab', h4, h5, e', h6, h7⟩
    · exact .inl (Nat.le_trans h.size h4)
    · rw [← h7]
      exact h.org m ab' e' h4 h5 h6
theorem R.drew {E : Env} {M : Mem} {w : World} (h : R E M w) : R E M w.drew :=
  ⟨h.fresh, h.dom, fun n ab hn => let ⟨e, h1, h2⟩ := h.live n ab hn; ⟨e, h1, h2.flat, h2.one, h2.cells, h2.own⟩, h.inj, Base.pres w w.drew (fun _ _ => rfl) h.inv, h.gle, h.base⟩
theorem Step.drew {E : Env} {M : Mem} {w : World} (h : R E M w) : Step E M w E M w.drew :=
  ⟨Env.le_refl E, fun _ _ => rfl, Nat.le_refl _, kind_refl M, h.drew, rfl, rfl, rfl, Nat.le_refl _, fun _ _ _ => rfl, fun n ab e h1 h2 h3 => .inr ⟨n, ab, h1, h2, e, h3, rfl⟩⟩
end Go.Proofs.YtnpggmdpokcakaaGreatDoor.AM
namespace Go.Proofs.YtnpggmdpokcakaaGreatDoor.AM
open Go.RowKit
variable [Base]

/-! ### What needs no world -/
def pureRun {α : Type} (P : Program) : Sem α → Option α
  | .pure a => some a
  | .program k => pureRun P (k P)
  | .mark _ k => pureRun P k
  | _ => none
theorem pureRun_sound {α : Type} {P : Program} : ∀ {s : Sem α} {a : α}, pureRun P s = some a → ∀ w, s.run P w = .ok a w
  | .pure x, a, h, w => by simp only [pureRun, Option.some.injEq] at h; subst h; rfl
  | .program k, a, h, w => pureRun_sound (s := k P) h w
  | .mark _ k, a, h, w => pureRun_sound (s := k) h w
  | .load .., _, h, _ | .store .., _, h, _ | .new .., _, h, _ | .shape .., _, h, _ | .freeze .., _, h, _ | .frozen .., _, h, _ | .getObj .., _, h, _ | .setObj .., _, h, _
  | .choose .., _, h, _ | .sys .., _, h, _ | .halt .., _, h, _ => by simp [pureRun] at h

mutual
def AV.raw : AV → Option Value
  | .v x => some x
  | .agg xs => (AV.raws xs).map fun l => .agg l.toArray
  | .tup xs => (AV.raws xs).map fun l => .tuple l.toArray
  | .fn f b c => bif plain f then (AV.raws b).bind fun b => (AV.raws c).map fun c => .func f b.toArray c.toArray else none
  | .ifc t x => (AV.raw x).map fun y => .iface t y
  | _ => none
def AV.raws : List AV → Option (List Value)
  | [] => some []
  | a :: as => (AV.raw a).bind fun x => (AV.raws as).map (x :: ·)
end
mutual
theorem AV.raw_eq {E : Env} : ∀ {a : AV} {x u : Value}, a.raw = some x → VR E a u → u = x
  | .v _, x, u, h, k => by simp only [AV.raw, Option.some.injEq] at h; simp only [VR] at k; rw [k, h]
  | .agg xs, x, u, h, k => by
    simp only [AV.raw, Option.map_eq_some_iff] at h
    obtain ⟨l, h1, rfl⟩ := h
    simp only [VR] at k
    obtain ⟨cs, rfl, k⟩ := k
    rw [← AV.raws_eq h1 k]
  | .tup xs, x, u, h, k => by
    simp only [AV.raw, Option.map_eq_some_iff] at h
    obtain ⟨l, h1, rfl⟩ := h
    simp only [VR] at k
    obtain ⟨cs, rfl, k⟩ := k
    rw [← AV.raws_eq h1 k]
  | .fn f b c, x, u, h, k => by
    cases hp : plain f with
    | false => simp [AV.raw, hp] at h
    | true =>
      simp only [AV.raw, hp, cond_true, Option.map_eq_some_iff, Option.bind_eq_some_iff] at h
      obtain ⟨l, h1, m, h2, rfl⟩ := h
      simp only [VR] at k
      obtain ⟨g, bs, cs, rfl, k0, k1, k2⟩ := k
      rw [← AV.raws_eq h1 k1, ← AV.raws_eq h2 k2, k0.eq hp]
  | .ifc t y, x, u, h, k => by
    simp only [AV.raw, Option.map_eq_some_iff] at h
    obtain ⟨l, h1, rfl⟩ := h
    simp only [VR] at k
    obtain ⟨cs, rfl, k⟩ := k
    rw [AV.raw_eq h1 k]
  | .bot, _, _, h, _ => by simp [AV.raw] at h
  | .ptr _ _, _, _, h, _ => by simp [AV.raw] at h
  | .sl _ _ _ _, _, _, h, _ => by simp [AV.raw] at h
theorem AV.raws_eq {E : Env} : ∀ {as : List AV} {l us : List Value}, AV.raws as = some l → VRs E as us → us = l
  | [], l, us, h, k => by simp only [AV.raws, Option.some.injEq] at h; simp only [VRs] at k; rw [k, h]
  | a :: as, l, us, h, k => by
    simp only [AV.raws, Option.map_eq_some_iff, Option.bind_eq_some_iff] at h
    obtain ⟨x, h1, m, h2, rfl⟩ := h
    simp only [VRs] at k
    obtain ⟨u, us', rfl, k1, k2⟩ := k
    rw [AV.raw_eq h1 k1, AV.raws_eq h2 k2]
end
def rawOf (ρ : Operand → AV) (x : Operand) : Value := ((ρ x).raw).getD undef
def aPure (P : Program) (ρ : Operand → AV) (o : Oper) : Option AV :=
  if o.op.operands.toList.all (fun x => (ρ x).raw.isSome) then
    match pureRun P (execOp (rawOf ρ) o) with
    | some (.value u) => some (AV.of u)
    | _ => none
  else none
def noSel : Op → Bool
  | .select .. => false
  | _ => true
theorem rawOf_eq {E : Env} {ρ : Operand → AV} {ρr : Operand → Value} {x : Operand} (h : (ρ x).raw.isSome = true) (k : VR E (ρ x) (ρr x)) : ρr x = rawOf ρ x := by
  obtain ⟨y, hy⟩ := Option.isSome_iff_exists.1 h
  rw [AV.raw_eq hy k]
  simp [rawOf, hy]
theorem aPure_sound {P : Program} {E : Env} {ρ : Operand → AV} {ρr : Operand → Value} {o : Oper} {a : AV} (h : aPure P ρ o = some a) (hs : noSel o.op = true) (hρ : ∀ x ∈ o.op.operands, VR E (ρ x) (ρr x)) (w : World) :
    ∃ u, (execOp ρr o).run P w = .ok (.value u) w ∧ VR E a u := by
  unfold aPure at h
  split at h
  · rename_i hall
    have e : execOp ρr o = execOp (rawOf ρ) o := execOp_congr o (by intro cs b hc; rw [hc] at hs; cases hs) (fun x hx => rawOf_eq (List.all_eq_true.1 hall x (by simpa using hx)) (hρ x hx))
    split at h
    · rename_i u hu
      injection h with h
      subst h
      exact ⟨u, by rw [e]; exact pureRun_sound hu w, VR.of E u⟩
    · cases h
  · cases h

/-! ### New blocks, stores, rows -/
def Env.put (E : Env) (n : Nat) (e : Ent) : Env := fun k => if k = n then some e else E k
theorem Env.put_self (E : Env) (n : Nat) (e : Ent) : E.put n e n = some e := by simp [Env.put]
theorem Env.le_put {E : Env} {n : Nat} (e : Ent) (h : E n = none) : E.le (E.put n e) := fun k e' hk => by
  unfold Env.put
  split
  · rename_i hkn; subst hkn; rw [h] at hk; cases hk
  · exact hk
theorem get_push_lt {M : Mem} {ab : AB} {n : Nat} {x : Option AB} (h : (M ++ [some ab])[n]? = some x) : M[n]? = some x ∧ n < M.length ∨ n = M.length ∧ x = some ab := by
  rcases Nat.lt_trichotomy n M.length with hn | hn | hn
  · rw [List.getElem?_append_left hn] at h; exact .inl ⟨h, hn⟩
  · subst hn; simp at h; exact .inr ⟨rfl, h.symm⟩
  · rw [List.getElem?_eq_none (by simp; omega)] at h; cases h
theorem RB.keep {E E' : Env} {w w' : World} {ab : AB} {e : Ent} (h : RB E w ab e) (hE : E.le E') (hb : w'.heap[e.b]? = w.heap[e.b]?) : RB E' w' ab e where
  flat := h.flat
  one := h.one
  cells := fun j a ha => let ⟨u, h1, h2⟩ := h.cells j a ha; ⟨u, by rw [← h1]; simp [World.cell?, hb], h2.mono hE⟩
  own := fun ho => let ⟨h1, cur, h2, h3⟩ := h.own ho; ⟨h1, cur, by rw [hb]; exact h2, h3⟩
theorem alloc_old (w : World) (o : Obj) (b : Nat) (hb : b < w.heap.size) : (w.alloc o).heap[b]? = w.heap[b]? := by
  simp only [World.alloc, Array.getElem?_push]
  rw [if_neg (by omega)]
theorem alloc_size (w : World) (o : Obj) : (w.alloc o).heap.size = w.heap.size + 1 := by
  show (w.heap.push o).size = _
  simp
theorem RB.fresh {E : Env} {w : World} {cells : List AV} {us : Array Value} {elem sz cap : Nat} {flat : Bool} (hv : VRs E cells us.toList) (h1 : cells.all AV.one = true) (hf : flat = true → cells.all AV.isV = true) (hs : us.size = cap * sz) (hc : cap ≤ maxLen) {b : Nat} (hb : w.heap[b]? = some (.cells us elem (0, 0))) :
    RB E w ⟨true, flat, elem, sz, cells⟩ ⟨b, 0, cap⟩ where
  flat := fun h => List.all_eq_true.1 (hf h)
  one := List.all_eq_true.1 h1
  cells := fun j a ha => by
    obtain ⟨u, h2, h3⟩ := hv.get ha
    exact ⟨u, by simpa [World.cell?, hb] using h2, h3⟩
  own := fun _ => ⟨rfl, us, hb, hs, hc, by have := hv.length; simp at this; simp [this]⟩
theorem put_old {E : Env} {M : Mem} (e : Ent) : ∀ n, n < M.length → E.put M.length e n = E n := fun n hn => by simp [Env.put, Nat.ne_of_lt hn]
/-- A new own block. -/
theorem Step.fresh {E : Env} {M : Mem} {w w' : World} (h : R E M w) {ab' : AB} {e' : Ent} (ho' : ab'.own = true)
    (hos : w'.os = w.os) (htape : w'.tape = w.tape) (hout : w'.output = w.output) (hsz : w.heap.size ≤ w'.heap.size) (hb : ∀ b, b < w.heap.size → w'.heap[b]? = w.heap[b]?) (hnew : RB (E.put M.length e') w' ab' e') (hlt' : e'.b < w'.heap.size) (hw : w.heap.size ≤ e'.b) :
    Step E M w (E.put M.length e') (M ++ [some ab']) w' := by
  have hle := Env.le_put (E := E) (n := M.length) e' (h.fresh _ (Nat.le_refl _))
  have hother : ∀ {k : Nat} {x : Ent}, k ≠ M.length → E.put M.length e' k = some x → E k = some x := fun hn he => by simpa [Env.put, hn] using he
  have hget : ∀ {k : Nat} {x : AB}, (M ++ [some ab'])[k]? = some (some x) → k < M.length ∧ M[k]? = some (some x) ∨ k = M.length ∧ x = ab' := fun {k x} hk => by
    rcases get_push_lt hk with ⟨hk, hl⟩ | ⟨hk, hx⟩
    · exact .inl ⟨hl, hk⟩
    · injection hx with hx
      exact .inr ⟨hk, hx⟩
  refine ⟨hle, put_old _, by simp, fun k x hk => ?_, ⟨fun k hk => ?_, fun k x hx => ?_, fun k x hk => ?_, fun k m x y e1 e2 hk hm hox hne he1 he2 => ?_, Base.pres w w' (fun b hb' => hb b (h.gle b hb')) h.inv, fun b hb' => Nat.lt_of_lt_of_le (h.gle b hb') hsz, fun k x e1 hk hox he1 => ?_⟩, hos, htape, hout, hsz, fun b hb' _ => hb b hb', fun k x e1 hk hox he1 => ?_⟩
  · rcases hget hk with ⟨hkl, hk⟩ | ⟨rfl, rfl⟩
    · exact ⟨fun _ => ⟨x, hk, rfl⟩, fun _ => by omega⟩
    · exact ⟨fun hl => by omega, fun _ => ho'⟩
  · simp only [List.length_append, List.length_cons, List.length_nil] at hk
    simp only [Env.put]
    rw [if_neg (by omega)]
    exact h.fresh k (by omega)
  · by_cases hkm : k = M.length
    · subst hkm; rw [Env.put_self] at hx; injection hx with hx; subst hx; exact hlt'
    · exact Nat.lt_of_lt_of_le (h.dom k x (hother hkm hx)) hsz
  · rcases hget hk with ⟨hkl, hk⟩ | ⟨rfl, rfl⟩
    · obtain ⟨e1, he1, hb1⟩ := h.live k x hk
      exact ⟨e1, hle _ _ he1, hb1.keep hle (hb _ (h.dom k e1 he1))⟩
    · exact ⟨e', Env.put_self _ _ _, hnew⟩
  · rcases hget hk with ⟨hkl, hk'⟩ | ⟨hkM, hx⟩
    · have he1' := hother (by omega) he1
      rcases hget hm with ⟨hml, hm'⟩ | ⟨hmM, hy⟩
      · exact h.inj k m x y e1 e2 hk' hm' hox hne he1' (hother (by omega) he2)
      · rw [hmM, Env.put_self] at he2
        injection he2 with he2
        subst he2
        have := h.dom k e1 he1'
        omega
    · rw [hkM, Env.put_self] at he1
      injection he1 with he1
      subst he1
      rcases hget hm with ⟨hml, hm'⟩ | ⟨hmM, hy⟩
      · have := h.dom m e2 (hother (by omega) he2)
        omega
      · exact (hne (hkM.trans hmM.symm)).elim
  · rcases hget hk with ⟨hkl, hk'⟩ | ⟨hkM, hx⟩
    · exact h.base k x e1 hk' hox (hother (by omega) he1)
    · rw [hkM, Env.put_self] at he1
      injection he1 with he1
      subst he1
      exact fun hk => by have := h.gle _ hk; omega
  · rcases hget hk with ⟨hkl, hk'⟩ | ⟨hkM, hx⟩
    · exact .inr ⟨k, x, hk', hox, e1, hother (by omega) he1, rfl⟩
    · rw [hkM, Env.put_self] at he1
      injection he1 with he1
      subst he1
      exact .inl hw
theorem Step.alloc {E : Env} {M : Mem} {w : World} (h : R E M w) {cells : List AV} {us : Array Value} {elem sz cap : Nat} {flat : Bool} (hv : VRs E cells us.toList) (h1 : cells.all AV.one = true) (hf : flat = true → cells.all AV.isV = true) (hs : us.size = cap * sz) (hc : cap ≤ maxLen) :
    Step E M w (E.put M.length ⟨w.heap.size, 0, cap⟩) (M ++ [some ⟨true, flat, elem, sz, cells⟩]) (w.alloc (.cells us elem)) := by
  have hz := alloc_size w (.cells us elem)
  exact Step.fresh h rfl rfl rfl rfl (by omega) (fun b hb => alloc_old w _ b hb) (RB.fresh (hv.mono (Env.le_put _ (h.fresh _ (Nat.le_refl _)))) h1 hf hs hc (heap_alloc_new w _)) (by show w.heap.size < _; omega) (Nat.le_refl _)

/-- A new block of which nothing is told. -/
theorem Step.other {E : Env} {M : Mem} {w : World} (h : R E M w) (o : Obj) : Step E M w E M (w.alloc o) := by
  have hz := alloc_size w o
  refine ⟨Env.le_refl E, fun _ _ => rfl, Nat.le_refl _, kind_refl M, ⟨h.fresh, fun n e he => by have := h.dom n e he; omega, fun n ab hn => ?_, h.inj, Base.pres w _ (fun b hb => alloc_old w o b (h.gle b hb)) h.inv, fun b hb => by have := h.gle b hb; omega, h.base⟩, rfl, rfl, rfl, by omega, fun b hb _ => alloc_old w o b hb, fun n ab e h1 h2 h3 => .inr ⟨n, ab, h1, h2, e, h3, rfl⟩⟩
  obtain ⟨e, he, hb⟩ := h.live n ab hn
  exact ⟨e, he, hb.keep (Env.le_refl E) (alloc_old w o _ (h.dom n e he))⟩
/-- Cells written over others, from a place on. -/
def setL (cells : List AV) (off : Nat) (vs : List AV) : List AV := cells.take off ++ vs ++ cells.drop (off + vs.length)
theorem setL_length {cells : List AV} {off : Nat} {vs : List AV} (h : off + vs.length ≤ cells.length) : (setL cells off vs).length = cells.length := by simp [setL]; omega
theorem mem_setL {cells : List AV} {off : Nat} {vs : List AV} {p : AV → Prop} (h : ∀ a ∈ cells, p a) (k : ∀ a ∈ vs, p a) : ∀ a ∈ setL cells off vs, p a := by
  intro a ha
  simp only [setL, List.mem_append] at ha
  rcases ha with (ha | ha) | ha
  · exact h a (List.mem_of_mem_take ha)
  · exact k a ha
  · exact h a (List.mem_of_mem_drop ha)
theorem R.le {E : Env} {M : Mem} {w : World} (h : R E M w) {n : Nat} {e : Ent} (he : E n = some e) : n < M.length := by
  rcases Nat.lt_or_ge n M.length with hn | hn
  · exact hn
  · rw [h.fresh n hn] at he; cases he
/-- A change of one own block alone. -/
theorem Step.change {E : Env} {M : Mem} {w w' : World} (h : R E M w) {n : Nat} {ab ab' : AB} {e : Ent} (hn : M[n]? = some (some ab)) (ho : ab.own = true) (ho' : ab'.own = true) (he : E n = some e)
    (hos : w'.os = w.os) (htape : w'.tape = w.tape) (hout : w'.output = w.output) (hsz : w'.heap.size = w.heap.size) (hb : ∀ b, b ≠ e.b → w'.heap[b]? = w.heap[b]?) (hnew : RB E w' ab' e) :
    Step E M w E (M.set n (some ab')) w' := by
  have hlt : n < M.length := (List.getElem?_eq_some_iff.1 hn).1
  have hget : ∀ {k : Nat} {x : AB}, (M.set n (some ab'))[k]? = some (some x) → k = n ∧ x = ab' ∨ k ≠ n ∧ M[k]? = some (some x) := fun {k x} hk => by
    by_cases hkn : k = n
    · subst hkn
      rw [List.getElem?_set_self hlt] at hk
      injection hk with hk
      injection hk with hk
      exact .inl ⟨rfl, hk.symm⟩
    · rw [List.getElem?_set_ne (fun e => hkn e.symm)] at hk
      exact .inr ⟨hkn, hk⟩
  refine ⟨Env.le_refl E, fun _ _ => rfl, by simp, fun k x hk => ?_, ⟨fun k hk => h.fresh k (by simpa using hk), fun k e' hk => by rw [hsz]; exact h.dom k e' hk, fun k x hk => ?_, fun k m x y e1 e2 hk hm hox hne he1 he2 => ?_, Base.pres w w' (fun b hb' => hb b (fun hbe => h.base n ab e hn ho he (hbe ▸ hb'))) h.inv, by rw [hsz]; exact h.gle, fun k x e1 hk hox he1 => ?_⟩, hos, htape, hout, by omega, fun b _ hnb => hb b (fun hbe => hnb n ab e hn ho he hbe.symm), fun k x e1 hk hox he1 => ?_⟩
  · rcases hget hk with ⟨rfl, rfl⟩ | ⟨hkn, hk⟩
    · exact ⟨fun _ => ⟨ab, hn, by rw [ho, ho']⟩, fun _ => ho'⟩
    · exact ⟨fun _ => ⟨x, hk, rfl⟩, fun hl => by have := get_lt hk; omega⟩
  · rcases hget hk with ⟨rfl, rfl⟩ | ⟨hkn, hk⟩
    · exact ⟨e, he, hnew⟩
    · obtain ⟨e1, he1, hb1⟩ := h.live k x hk
      exact ⟨e1, he1, hb1.keep (Env.le_refl E) (hb _ (fun hbb => h.inj n k ab x e e1 hn hk ho (fun hh => hkn hh.symm) he he1 hbb.symm))⟩
  · rcases hget hk with ⟨hkn, hx⟩ | ⟨hkn, hk'⟩
    · rcases hget hm with ⟨hmn, hy⟩ | ⟨hmn, hm'⟩
      · exact (hne (hkn.trans hmn.symm)).elim
      · exact h.inj k m ab y e1 e2 (hkn ▸ hn) hm' ho hne he1 he2
    · rcases hget hm with ⟨hmn, hy⟩ | ⟨hmn, hm'⟩
      · exact h.inj k m x ab e1 e2 hk' (hmn ▸ hn) hox hne he1 he2
      · exact h.inj k m x y e1 e2 hk' hm' hox hne he1 he2
  · rcases hget hk with ⟨rfl, rfl⟩ | ⟨hkn, hk⟩
    · exact h.base k ab e1 hn ho he1
    · exact h.base k x e1 hk hox he1
  · rcases hget hk with ⟨rfl, rfl⟩ | ⟨hkn, hk⟩
    · exact .inr ⟨k, ab, hn, ho, e1, he1, rfl⟩
    · exact .inr ⟨k, x, hk, hox, e1, he1, rfl⟩
theorem take_zero_self (l : List AV) : l.take 0 = [] := rfl
/-- A store of some cells into an own block. -/
theorem Step.store {P : Program} {E : Env} {M : Mem} {w : World} (h : R E M w) {n off : Nat} {ab : AB} {e : Ent} {vs : List AV} {us : List Value} (hn : M[n]? = some (some ab)) (ho : ab.own = true) (he : E n = some e)
    (hoff : off + vs.length ≤ ab.cells.length) (hv : VRs E vs us) (h1 : vs.all AV.one = true) :
    ∃ w', (storeCells ⟨e.b, e.off + off, none⟩ us).run P w = .ok () w' ∧ Step E M w E (M.set n (some { ab with flat := ab.flat && vs.all AV.isV, cells := setL ab.cells off vs })) w' := by
  obtain ⟨e0, he0, hb⟩ := h.live n ab hn
  rw [he] at he0
  injection he0 with he0
  subst he0
  obtain ⟨hz, cur, hg, hsz, hcap, hlen⟩ := hb.own ho
  have hul := hv.length
  have hr := run_storeCells_at P e.b off ab.elem us 0 cur w hg (by simp; omega) (hv.one h1)
  rw [hz, Nat.zero_add]
  refine ⟨_, hr, Step.change h hn ho ho he rfl rfl rfl (by simp [World.setRow]) (fun b hbb => setRow_other w e.b b _ hbb) ?_⟩
  have hg' := setRow_heap w e.b cur (cur.toList.take (off + 0) ++ us ++ cur.toList.drop (off + 0 + us.length)).toArray ab.elem (0, 0) hg
  refine ⟨fun hf => ?_, mem_setL hb.one (List.all_eq_true.1 h1), fun j a hj => ?_, fun _ => ⟨hz, _, hg', ?_, hcap, ?_⟩⟩
  · simp only [Bool.and_eq_true] at hf
    exact mem_setL (hb.flat hf.1) (List.all_eq_true.1 hf.2)
  · rw [hz, Nat.zero_add]
    simp only [World.cell?, hg']
    simp only [setL] at hj
    simp only [Nat.add_zero, Option.isSome_none, Bool.false_eq_true, if_false, List.getElem?_toArray]
    by_cases hj1 : j < off
    · rw [List.append_assoc, List.getElem?_append_left (by simp; omega)] at hj
      rw [List.append_assoc, List.getElem?_append_left (by simp; omega)]
      rw [List.getElem?_take, if_pos hj1] at hj ⊢
      obtain ⟨u, h2, h3⟩ := hb.cells j a hj
      refine ⟨u, ?_, h3⟩
      simpa [World.cell?, hz, hg] using h2
    · by_cases hj2 : j < off + vs.length
      · rw [List.append_assoc, List.getElem?_append_right (by simp; omega), List.getElem?_append_left (by simp; omega)] at hj
        rw [List.append_assoc, List.getElem?_append_right (by simp; omega), List.getElem?_append_left (by simp; omega)]
        obtain ⟨u, h2, h3⟩ := hv.get hj
        refine ⟨u, ?_, h3⟩
        rw [← h2]
        congr 1
        simp
        omega
      · rw [List.getElem?_append_right (by simp; omega)] at hj
        rw [List.getElem?_append_right (by simp; omega)]
        rw [List.getElem?_drop] at hj ⊢
        have e1 : off + vs.length + (j - (List.take off ab.cells ++ vs).length) = j := by simp; omega
        rw [e1] at hj
        obtain ⟨u, h2, h3⟩ := hb.cells j a hj
        refine ⟨u, ?_, h3⟩
        have e2 : off + us.length + (j - (List.take off cur.toList ++ us).length) = j := by simp; omega
        rw [e2]
        simpa [World.cell?, hz, hg] using h2
  · simp only [Nat.add_zero, List.size_toArray, List.length_append, List.length_take, List.length_drop, Array.length_toList]
    omega
  · rw [setL_length hoff]
    simp only [Nat.add_zero, List.size_toArray, List.length_append, List.length_take, List.length_drop, Array.length_toList]
    omega
end Go.Proofs.YtnpggmdpokcakaaGreatDoor.AM
namespace Go.Proofs.YtnpggmdpokcakaaGreatDoor.AM
open Go.RowKit
variable [Base]

/-- What the model answers to an operation that yields a value. -/
def Ans (E : Env) (M : Mem) (w : World) (Q : AV × Mem → Prop) (r : Result Value) : Prop :=
  ∃ u w', r = .ok u w' ∧ ∃ E' v M', Q (v, M') ∧ VR E' v u ∧ Step E M w E' M' w'
theorem Ans.same {E : Env} {M : Mem} {w : World} {Q : AV × Mem → Prop} {v : AV} {u : Value} {r : Result Value} (hr : r = .ok u w) (hR : R E M w) (hv : VR E v u) (hq : Q (v, M)) : Ans E M w Q r :=
  ⟨u, w, hr, E, v, M, hq, hv, Step.refl hR⟩
def T.ofOpt {α : Type} : Option α → T α
  | some a => .ret a
  | none => .fail
theorem T.sat_ofOpt {α : Type} {Q : α → Prop} {o : Option α} (h : (T.ofOpt o).sat Q) : ∃ a, o = some a ∧ Q a := by
  cases o with
  | none => exact h.elim
  | some a => exact ⟨a, rfl, h⟩
/-- Only if. -/
def T.guard {α : Type} (b : Bool) (x : T α) : T α := .ite b x .fail
theorem T.sat_guard {α : Type} {Q : α → Prop} {b : Bool} {x : T α} (h : (T.guard b x).sat Q) : b = true ∧ x.sat Q := by
  cases b
  · exact (h.2 rfl).elim
  · exact ⟨rfl, h.1 rfl⟩
def Mem.at (M : Mem) (n : Nat) : Option AB := (M[n]?).join
theorem Mem.at_some {M : Mem} {n : Nat} {ab : AB} (h : M.at n = some ab) : M[n]? = some (some ab) := by
  unfold Mem.at at h
  cases hm : M[n]? with
  | none => rw [hm] at h; cases h
  | some x => rw [hm] at h; simp only [Option.join] at h; simp only [Option.bind_some, id] at h; rw [h]

section
variable {P : Program} {E : Env} {M : Mem} {w : World}

def isAggD : TypeDesc → Bool
  | .struct _ | .array _ _ => true
  | _ => false
theorem run_isAgg {t : TypeId} {d : TypeDesc} (h : P.underlying t = some d) (w : World) : (isAgg t).run P w = .ok (isAggD d) w := by
  unfold isAgg
  simp only [Sem.run_bind, run_underlying h, Result.andThen_ok]
  cases d <;> rfl
theorem run_sizeOf {t : TypeId} {i : TypeInfo} (h : P.info? t = some i) (w : World) : (sizeOf t).run P w = .ok i.size w := by simp [sizeOf, typeInfo, h]

/-! ### Loads -/
noncomputable def aLoad (P : Program) (t : TypeId) (a : AV) (M : Mem) : T AV :=
  match a with
  | .ptr n off =>
    match M.at n, P.underlying t, P.info? t with
    | some ab, some d, some i =>
      match isAggD d with
      | true => T.guard (decide (off + i.size ≤ ab.cells.length)) (.ret (.agg ((ab.cells.drop off).take i.size)))
      | false => T.ofOpt ab.cells[off]?
    | _, _, _ => .fail
  | _ => .fail
theorem cells_range {E : Env} {w : World} {ab : AB} {e : Ent} (hb : RB E w ab e) (off k : Nat) (h : off + k ≤ ab.cells.length) :
    ∃ us : List Value, us.length = k ∧ VRs E ((ab.cells.drop off).take k) us ∧ ∀ j u, us[j]? = some u → w.cell? ((⟨e.b, e.off + off, none⟩ : Addr).add j) = some u := by
  induction k with
  | zero => exact ⟨[], rfl, by simp [VRs], fun j u hu => by simp at hu⟩
  | succ k ih =>
    obtain ⟨us, h1, h2, h3⟩ := ih (by omega)
    obtain ⟨u, h4, h5⟩ := hb.cells (off + k) ab.cells[off + k] (List.getElem?_eq_getElem (by omega))
    refine ⟨us ++ [u], by simp [h1], ?_, fun j v hv => ?_⟩
    · rw [List.take_add_one, List.getElem?_drop, List.getElem?_eq_getElem (by omega)]
      refine VRs.append h2 ?_
      simp only [Option.toList, VRs]
      exact ⟨u, [], rfl, h5, rfl⟩
    · rw [List.getElem?_append] at hv
      split at hv
      · exact h3 j v hv
      · rename_i hj
        have hjk : j = k := by
          rcases Nat.lt_or_ge (j - us.length) 1 with h' | h'
          · omega
          · rw [List.getElem?_eq_none (by simpa using h')] at hv; cases hv
        subst hjk
        rw [h1, Nat.sub_self] at hv
        simp only [List.getElem?_cons_zero, Option.some.injEq] at hv
        subst hv
        rw [Addr.add_lit, Nat.add_assoc]
        exact h4
theorem aLoad_sound {t : TypeId} {a : AV} {u : Value} {Q : AV → Prop} (h : (aLoad P t a M).sat Q) (ha : VR E a u) (hR : R E M w) : ∃ x v, (Instr.loadAt t u).run P w = .ok x w ∧ Q v ∧ VR E v x := by
  unfold aLoad at h
  split at h
  · rename_i n off
    simp only [VR] at ha
    obtain ⟨e, he, rfl⟩ := ha
    split at h
    · rename_i ab d i hab hd hi
      obtain ⟨e', he', hb⟩ := hR.live _ _ (Mem.at_some hab)
      rw [he] at he'
      injection he' with he'
      subst he'
      have hrun : ∀ x : Value, (loadVar t ⟨e.b, e.off + off, none⟩).run P w = .ok x w → (Instr.loadAt t (.pointer (some ⟨e.b, e.off + off, none⟩))).run P w = .ok x w := fun x hx => by
        simp [Instr.loadAt, Instr.sureAddr, hx]
      split at h
      · rename_i hagg
        obtain ⟨h1, h2⟩ := T.sat_guard h
        obtain ⟨us, hl, hv, hc⟩ := cells_range hb off i.size (of_decide_eq_true h1)
        refine ⟨.agg us.toArray, _, hrun _ ?_, h2, ?_⟩
        · have hlc := run_loadCells_list (P := P) w _ us hc
          rw [hl] at hlc
          simp [loadVar, run_isAgg hd, hagg, run_sizeOf hi, hlc]
        · simp only [VR]
          exact ⟨_, rfl, by simpa using hv⟩
      · rename_i hagg
        obtain ⟨v, hv, hq⟩ := T.sat_ofOpt h
        obtain ⟨x, hx, hxv⟩ := hb.cells off v hv
        exact ⟨x, v, hrun _ (by simp [loadVar, run_isAgg hd, hagg, hx]), hq, hxv⟩
    · exact h.elim
  · exact h.elim

/-! ### Stores -/
noncomputable def aStore (P : Program) (t : TypeId) (a x : AV) (M : Mem) : T Mem :=
  match a with
  | .ptr n off =>
    match M.at n, P.info? t with
    | some ab, some i =>
      T.guard (ab.own && x.cells.all AV.one && (x.cells.length == i.size)) (T.guard (decide (off + x.cells.length ≤ ab.cells.length)) (.ret (M.set n (some { ab with flat := ab.flat && x.cells.all AV.isV, cells := setL ab.cells off x.cells }))))
    | _, _ => .fail
  | _ => .fail
theorem aStore_sound {t : TypeId} {a x : AV} {u y : Value} {Q : Mem → Prop} (h : (aStore P t a x M).sat Q) (ha : VR E a u) (hx : VR E x y) (hR : R E M w) : ∃ M' w', (Instr.storeAt t u y).run P w = .ok () w' ∧ Q M' ∧ Step E M w E M' w' := by
  unfold aStore at h
  split at h
  · rename_i n off
    simp only [VR] at ha
    obtain ⟨e, he, rfl⟩ := ha
    split at h
    · rename_i ab i hab hi
      obtain ⟨h1, h⟩ := T.sat_guard h
      obtain ⟨h2, h⟩ := T.sat_guard h
      simp only [Bool.and_eq_true, beq_iff_eq] at h1
      obtain ⟨⟨ho, hone⟩, hsz⟩ := h1
      have hv := hx.cells hone
      obtain ⟨w', hr, hs⟩ := Step.store (P := P) hR (Mem.at_some hab) ho he (of_decide_eq_true h2) hv hone
      refine ⟨_, w', ?_, h, hs⟩
      have hl := hv.length
      simp only [Array.length_toList] at hl
      simp [Instr.storeAt, Instr.sureAddr, storeVar, run_sizeOf hi, hl, hsz, hr]
    · exact h.elim
  · exact h.elim

/-! ### New variables and rows -/
noncomputable def aNew (elem sz : TypeId) (cells : List AV) (M : Mem) : T Mem := T.guard (cells.all AV.one) (.ret (M ++ [some ⟨true, cells.all AV.isV, elem, sz, cells⟩]))
noncomputable def aBox (elem : TypeId) (x : AV) (M : Mem) : T (AV × Mem) := (aNew elem x.cells.length x.cells M).bind fun M' => .ret (.ptr M.length 0, M')
noncomputable def aAlloc (P : Program) (elem : TypeId) (M : Mem) : T (AV × Mem) :=
  match (P.info? elem).bind (·.zero) with
  | some z => aBox elem (AV.of z) M
  | none => .fail
theorem VR.ptr_new (M : Mem) (b cap : Nat) : VR (E.put M.length ⟨b, 0, cap⟩) (.ptr M.length 0) (.pointer (some ⟨b, 0, none⟩)) := by
  simp only [VR]
  exact ⟨_, Env.put_self _ _ _, rfl⟩
theorem aBox_sound {elem : TypeId} {x : AV} {u : Value} {Q : AV × Mem → Prop} (h : (aBox elem x M).sat Q) (hx : VR E x u) (hR : R E M w) : Ans E M w Q ((Instr.box elem u).run P w) := by
  unfold aBox aNew at h
  rw [T.sat_bind] at h
  obtain ⟨h1, h2⟩ := T.sat_guard h
  have hv := hx.cells h1
  have hl := hv.length
  simp only [Array.length_toList] at hl
  refine ⟨_, _, ?_, _, _, _, h2, VR.ptr_new M w.heap.size 1, Step.alloc (sz := x.cells.length) (cap := 1) (elem := elem) (us := u.cells) hR hv h1 (fun h => h) (by omega) (by unfold maxLen; omega)⟩
  rfl
theorem aAlloc_sound {elem : TypeId} {Q : AV × Mem → Prop} (old : Value) (h : (aAlloc P elem M).sat Q) (hR : R E M w) : Ans E M w Q ((Instr.alloc elem true old).run P w) := by
  unfold aAlloc at h
  split at h
  · rename_i z hz
    simp only [Option.bind_eq_some_iff] at hz
    obtain ⟨i, hi, hz⟩ := hz
    have := aBox_sound (P := P) h (VR.of E z) hR
    have e : (Instr.alloc elem true old).run P w = (Instr.box elem z).run P w := by simp [Instr.alloc, Instr.box, zeroValue, typeInfo, hi, hz]
    rwa [e]
  · exact h.elim
end
end Go.Proofs.YtnpggmdpokcakaaGreatDoor.AM
namespace Go.Proofs.YtnpggmdpokcakaaGreatDoor.AM
open Go.RowKit
variable [Base]
section
variable {P : Program} {E : Env} {M : Mem} {w : World}

noncomputable def aFieldAddr (P : Program) (s : TypeId) (a : AV) (f : Nat) : T AV :=
  match a, P.underlying s with
  | .ptr n off, some (.struct fields) =>
    match fields[f]? with
    | some fd =>
      match P.info? fd.type with
      | some i => if i.size = 0 then .fail else .ret (.ptr n (off + fd.offset))
      | none => .fail
    | none => .fail
  | _, _ => .fail
theorem aFieldAddr_sound {s : TypeId} {a : AV} {f : Nat} {u : Value} {Q : AV → Prop} (h : (aFieldAddr P s a f).sat Q) (ha : VR E a u) (w : World) : ∃ x v, (Instr.fieldAt s u f).run P w = .ok x w ∧ Q v ∧ VR E v x := by
  unfold aFieldAddr at h
  split at h
  · rename_i n off fields hs
    simp only [VR] at ha
    obtain ⟨e, he, rfl⟩ := ha
    split at h
    · rename_i fd hf
      split at h
      · rename_i i hi
        split at h
        · exact h.elim
        · rename_i hz
          refine ⟨.pointer (some ⟨e.b, e.off + (off + fd.offset), none⟩), _, ?_, h, ?_⟩
          · simp [Instr.fieldAt, run_underlying hs, hf, Instr.sureAddr, fieldPlace, run_sizeOf hi, hz, Addr.add_lit, Nat.add_assoc]
          · simp only [VR]; exact ⟨e, he, rfl⟩
      · exact h.elim
    · exact h.elim
  · exact h.elim

noncomputable def aIndexAddr (P : Program) (t : TypeId) (a i : AV) : T AV :=
  match a, P.underlying t, i with
  | .sl n off len _, some (.slice elem), .v (.int _ k) =>
    match P.info? elem with
    | some ei => T.guard (decide (0 ≤ k ∧ k < (len : Int))) (.ret (.ptr n (off + k.toNat * ei.size)))
    | none => .fail
  | .ptr n off, some (.array len elem), .v (.int _ k) =>
    match P.info? elem with
    | some ei => T.guard (decide (0 ≤ k ∧ k < (len : Int))) (.ret (.ptr n (off + k.toNat * ei.size)))
    | none => .fail
  | _, _, _ => .fail
theorem aIndexAddr_sound {t : TypeId} {a i : AV} {u y : Value} {Q : AV → Prop} (h : (aIndexAddr P t a i).sat Q) (ha : VR E a u) (hi : VR E i y) (w : World) : ∃ x v, (Instr.indexAt t u y).run P w = .ok x w ∧ Q v ∧ VR E v x := by
  unfold aIndexAddr at h
  split at h
  · rename_i n off len cap elem kd k ht
    simp only [VR] at ha hi
    obtain ⟨e, c, he, rfl, _⟩ := ha
    subst hi
    split at h
    · rename_i ei hei
      obtain ⟨h1, h2⟩ := T.sat_guard h
      have h1 := of_decide_eq_true h1
      refine ⟨.pointer (some ⟨e.b, e.off + (off + k.toNat * ei.size), none⟩), _, ?_, h2, ?_⟩
      · simp [Instr.indexAt, asIntOf, run_underlying ht, h1, run_sizeOf hei, Addr.add_lit, Nat.add_assoc]
      · simp only [VR]; exact ⟨e, he, rfl⟩
    · exact h.elim
  · rename_i n off len elem kd k ht
    simp only [VR] at ha hi
    obtain ⟨e, he, rfl⟩ := ha
    subst hi
    split at h
    · rename_i ei hei
      obtain ⟨h1, h2⟩ := T.sat_guard h
      have h1 := of_decide_eq_true h1
      refine ⟨.pointer (some ⟨e.b, e.off + (off + k.toNat * ei.size), none⟩), _, ?_, h2, ?_⟩
      · simp [Instr.indexAt, asIntOf, run_underlying ht, Instr.sureAddr, h1, run_sizeOf hei, Addr.add_lit, Nat.add_assoc]
      · simp only [VR]; exact ⟨e, he, rfl⟩
    · exact h.elim
  · exact h.elim

noncomputable def aPart (P : Program) (t : TypeId) (xs : List AV) (off : Nat) : T AV :=
  match P.underlying t, P.info? t with
  | some d, some i =>
    match isAggD d with
    | true => .ret (.agg ((xs.drop off).take i.size))
    | false => T.ofOpt xs[off]?
  | _, _ => .fail
theorem aPart_sound {t : TypeId} {xs : List AV} {cs : Array Value} {off : Nat} {Q : AV → Prop} (h : (aPart P t xs off).sat Q) (hx : VRs E xs cs.toList) (w : World) : ∃ x v, (part t cs off).run P w = .ok x w ∧ Q v ∧ VR E v x := by
  unfold aPart at h
  split at h
  · rename_i d i hd hi
    split at h
    · rename_i hagg
      refine ⟨.agg (cs.extract off (off + i.size)), _, ?_, h, ?_⟩
      · simp [part, run_isAgg hd, hagg, run_sizeOf hi]
      · simp only [VR]
        refine ⟨_, rfl, ?_⟩
        have := (hx.drop off).take i.size
        rw [Array.toList_extract, List.extract_eq_take_drop]
        simpa using this
    · rename_i hagg
      obtain ⟨v, hv, hq⟩ := T.sat_ofOpt h
      obtain ⟨x, h1, h2⟩ := hx.get hv
      refine ⟨x, v, ?_, hq, h2⟩
      have h1' : cs[off]? = some x := by simpa using h1
      simp [part, run_isAgg hd, hagg, h1']
  · exact h.elim
noncomputable def aField (P : Program) (t : TypeId) (a : AV) (f : Nat) : T AV :=
  match a, P.underlying t with
  | .agg xs, some (.struct fields) =>
    match fields[f]? with
    | some fd => aPart P fd.type xs fd.offset
    | none => .fail
  | _, _ => .fail
theorem aField_sound {t : TypeId} {a : AV} {f : Nat} {u : Value} {Q : AV → Prop} (h : (aField P t a f).sat Q) (ha : VR E a u) (w : World) : ∃ x v, (Instr.field t u f).run P w = .ok x w ∧ Q v ∧ VR E v x := by
  unfold aField at h
  split at h
  · rename_i xs fields hs
    simp only [VR] at ha
    obtain ⟨cs, rfl, hx⟩ := ha
    split at h
    · rename_i fd hf
      obtain ⟨x, v, h1, h2⟩ := aPart_sound h hx w
      exact ⟨x, v, by simp [Instr.field, run_underlying hs, hf, asAgg, h1], h2⟩
    · exact h.elim
  · exact h.elim
noncomputable def aExtract (a : AV) (k : Nat) : T AV :=
  match a with
  | .tup xs => T.ofOpt xs[k]?
  | _ => .fail
theorem aExtract_sound {a : AV} {k : Nat} {u : Value} {Q : AV → Prop} (h : (aExtract a k).sat Q) (ha : VR E a u) (w : World) : ∃ x v, (Instr.extract u k).run P w = .ok x w ∧ Q v ∧ VR E v x := by
  unfold aExtract at h
  split at h
  · simp only [VR] at ha
    obtain ⟨cs, rfl, hx⟩ := ha
    obtain ⟨v, hv, hq⟩ := T.sat_ofOpt h
    obtain ⟨x, h1, h2⟩ := hx.get hv
    have h1' : cs[k]? = some x := by simpa using h1
    exact ⟨x, v, by simp [Instr.extract, h1'], hq, h2⟩
  · exact h.elim

/-! ### Slices -/
noncomputable def aInt : Option AV → Option (Option Int)
  | none => some none
  | some (.v (.int _ k)) => some (some k)
  | _ => none
theorem aInt_sound {a : Option AV} {o : Option Value} {r : Option Int} (h : aInt a = some r) (ha : ∀ x, a = some x → ∃ y, o = some y ∧ VR E x y) (hn : a = none → o = none) : (r = none ∧ o = none) ∨ ∃ k kd, r = some k ∧ o = some (.int kd k) := by
  unfold aInt at h
  split at h
  · injection h with h; exact .inl ⟨h.symm, hn rfl⟩
  · rename_i kd k
    injection h with h
    obtain ⟨y, h1, h2⟩ := ha _ rfl
    simp only [VR] at h2
    exact .inr ⟨k, kd, h.symm, by rw [h1, h2]⟩
  · cases h
/-- A slice's slice: what is past the length is not looked at. -/
noncomputable def aSlice (P : Program) (t : TypeId) (a : AV) (lo hi mx : Option AV) : T AV :=
  match a, P.underlying t, aInt lo, aInt hi, aInt mx with
  | .sl n off len cap, some (.slice elem), some l, some h, some m =>
    match P.info? elem with
    | none => .fail
    | some ei =>
      let lv := l.getD 0
      let hv := h.getD len
      T.guard (match m, h with | some _, none => false | _, _ => true) <|
      T.guard (decide (0 ≤ lv ∧ lv ≤ hv ∧ hv ≤ (m.getD len) ∧ (m.getD len) ≤ (len : Int) ∧ (lv = 0 ∨ lv < hv))) <|
      .ret (.sl n (off + lv.toNat * ei.size) (hv.toNat - lv.toNat) (match m, cap with | some m, _ => .ex (m.toNat - lv.toNat) | none, .ex c => .ex (c - lv.toNat) | none, _ => .any))
  | _, _, _, _, _ => .fail
theorem run_bound {k : IntKind} {i : Int} {y : Nat} {c : BoundsCode} (h0 : 0 ≤ i) (h1 : i ≤ (y : Int)) (w : World) : (Instr.sliceBound (.int k i) y c).run P w = .ok i.toNat w := by simp [Instr.sliceBound, asIntOf, h0, h1]
theorem aSlice_sound {t : TypeId} {a : AV} {lo hi mx : Option AV} {u : Value} {lo' hi' mx' : Option Value} {Q : AV → Prop} (h : (aSlice P t a lo hi mx).sat Q) (ha : VR E a u)
    (hlo : ∀ x, lo = some x → ∃ y, lo' = some y ∧ VR E x y) (hlo0 : lo = none → lo' = none) (hhi : ∀ x, hi = some x → ∃ y, hi' = some y ∧ VR E x y) (hhi0 : hi = none → hi' = none)
    (hmx : ∀ x, mx = some x → ∃ y, mx' = some y ∧ VR E x y) (hmx0 : mx = none → mx' = none) (w : World) : ∃ x v, (Instr.sliceAt t u lo' hi' mx').run P w = .ok x w ∧ Q v ∧ VR E v x := by
  unfold aSlice at h
  split at h
  · rename_i n off len cap elem l hh m ht hl hhh hm
    simp only [VR] at ha
    obtain ⟨e, c, he, rfl, hlc, hcap⟩ := ha
    split at h
    · exact h.elim
    · rename_i ei hei
      obtain ⟨h1, h⟩ := T.sat_guard h
      obtain ⟨h2, h⟩ := T.sat_guard h
      have h2 := of_decide_eq_true h2
      obtain ⟨b1, b2, b3, b4, b5⟩ := h2
      -- the bounds
      have key : ∃ mm : Nat, (Instr.sliceBounds true len c lo' hi' mx').run P w = .ok ((l.getD 0).toNat, (hh.getD len).toNat, mm) w ∧ (hh.getD len).toNat ≤ mm ∧ (∀ x, m = some x → mm = x.toNat) ∧ (m = none → mm = c) := by
        unfold Instr.sliceBounds
        rcases aInt_sound hl hlo hlo0 with ⟨rfl, rfl⟩ | ⟨lv, kl, rfl, rfl⟩ <;> rcases aInt_sound hhh hhi hhi0 with ⟨rfl, rfl⟩ | ⟨hv, kh, rfl, rfl⟩ <;> rcases aInt_sound hm hmx hmx0 with ⟨rfl, rfl⟩ | ⟨mv, km, rfl, rfl⟩ <;> simp only [Option.getD_none, Option.getD_some] at b1 b2 b3 b4 b5 h1 ⊢
        · exact ⟨c, by simp, by simpa using hlc, by simp, by simp⟩
        · cases h1
        · exact ⟨c, by simp [run_bound (P := P) (k := kh) (i := hv) (y := c) b2 (by omega)], by omega, by simp, by simp⟩
        · exact ⟨mv.toNat, by simp [run_bound (P := P) (k := km) (i := mv) (y := c) (by omega) (by omega), run_bound (P := P) (k := kh) (i := hv) (y := mv.toNat) b2 (by omega)], by omega, by simp, by simp⟩
        · exact ⟨c, by simp [run_bound (P := P) (k := kl) (i := lv) (y := len) b1 (by omega)], by simpa using hlc, by simp, by simp⟩
        · cases h1
        · exact ⟨c, by simp [run_bound (P := P) (k := kh) (i := hv) (y := c) (by omega) (by omega), run_bound (P := P) (k := kl) (i := lv) (y := hv.toNat) b1 (by omega)], by omega, by simp, by simp⟩
        · exact ⟨mv.toNat, by simp [run_bound (P := P) (k := km) (i := mv) (y := c) (by omega) (by omega), run_bound (P := P) (k := kh) (i := hv) (y := mv.toNat) (by omega) (by omega), run_bound (P := P) (k := kl) (i := lv) (y := hv.toNat) b1 (by omega)], by omega, by simp, by simp⟩
      obtain ⟨mm, hb, hmm, hm1, hm2⟩ := key
      have haddr : (if mm = (l.getD 0).toNat then (some ⟨e.b, e.off + off, none⟩ : Option Addr) else (some ⟨e.b, e.off + off, none⟩ : Option Addr).map (·.add ((l.getD 0).toNat * ei.size))) = some ⟨e.b, e.off + (off + (l.getD 0).toNat * ei.size), none⟩ := by
        split
        · rename_i hml
          have : (l.getD 0).toNat = 0 := by omega
          rw [this]
          simp
        · simp [Addr.add_lit, Nat.add_assoc]
      refine ⟨.slice (some ⟨e.b, e.off + (off + (l.getD 0).toNat * ei.size), none⟩) ((hh.getD len).toNat - (l.getD 0).toNat) (mm - (l.getD 0).toNat), _, ?_, h, ?_⟩
      · simp [Instr.sliceAt, Instr.slice, run_underlying ht, hb, run_sizeOf hei]
        simpa using haddr
      · simp only [VR]
        refine ⟨e, mm - (l.getD 0).toNat, he, rfl, by omega, ?_⟩
        cases m with
        | some mv => simp only [Cp.fits]; rw [hm1 mv rfl]
        | none =>
          rw [hm2 rfl]
          cases cap <;> simp only [Cp.fits] at hcap ⊢
          rw [hcap]
  · exact h.elim
end
end Go.Proofs.YtnpggmdpokcakaaGreatDoor.AM
namespace Go.Proofs.YtnpggmdpokcakaaGreatDoor.AM
open Go.RowKit
variable [Base]
section
variable {P : Program} {E : Env} {M : Mem} {w : World}

/-! ### Parts put together -/
def fillA (place : Nat → Option (Nat × Nat)) (cells : List AV) : List (Nat × AV) → Option (List AV)
  | [] => some cells
  | (i, v) :: rest =>
    match place i with
    | none => none
    | some (off, size) => if v.cells.length = size ∧ off + v.cells.length ≤ cells.length ∧ v.cells.all AV.one = true then fillA place (setL cells off v.cells) rest else none
theorem foldl_set (off : Nat) : ∀ (vs : List Value) (k : Nat) (cs : Array Value), off + k + vs.length ≤ cs.size →
    ((vs.zipIdx k).foldl (fun cs (c, j) => cs.setIfInBounds (off + j) c) cs).toList = cs.toList.take (off + k) ++ vs ++ cs.toList.drop (off + k + vs.length) := by
  intro vs
  induction vs with
  | nil => intro k cs h; simp
  | cons v vs ih =>
    intro k cs h
    simp only [List.length_cons] at h
    simp only [List.zipIdx_cons, List.foldl_cons]
    rw [ih (k + 1) _ (by simp; omega)]
    rw [← Nat.add_assoc]
    have e := list_seg_step cs.toList (off + k) v vs (by simp; omega)
    simpa [Array.toList_setIfInBounds, Nat.add_assoc, Nat.add_comm, Nat.add_left_comm] using e
theorem fillA_sound {place : Nat → Option (Nat × Nat)} : ∀ {parts : List (Nat × AV)} {cells r : List AV} {cs : Array Value} {ps : List (Nat × Value)}, fillA place cells parts = some r → VRs E cells cs.toList →
    ps.length = parts.length → (∀ (j : Nat) (p : Nat × AV) (q : Nat × Value), parts[j]? = some p → ps[j]? = some q → q.1 = p.1 ∧ VR E p.2 q.2) → ∃ rs, Instr.fill place cs ps = some rs ∧ VRs E r rs.toList
  | [], cells, r, cs, ps, h, hc, hl, _ => by
    have : ps = [] := List.eq_nil_of_length_eq_zero (by simpa using hl)
    subst this
    simp only [fillA, Option.some.injEq] at h
    subst h
    exact ⟨cs, rfl, hc⟩
  | (i, v) :: rest, cells, r, cs, [], h, hc, hl, _ => by simp at hl
  | (i, v) :: rest, cells, r, cs, (i', u) :: ps, h, hc, hl, hp => by
    obtain ⟨hi, hv⟩ := hp 0 _ _ rfl rfl
    simp only at hi hv
    subst hi
    simp only [fillA] at h
    split at h
    · cases h
    · rename_i off size hpl
      split at h
      · rename_i hcond
        obtain ⟨h1, h2, h3⟩ := hcond
        have hvc := hv.cells h3
        have hul := hvc.length
        have hcl := hc.length
        simp only [Array.length_toList] at hul hcl
        have hset : VRs E (setL cells off v.cells) ((u.cells.zipIdx.foldl (fun cs (c, j) => cs.setIfInBounds (off + j) c) cs)).toList := by
          have e1 : u.cells.zipIdx.foldl (fun cs (c, j) => cs.setIfInBounds (off + j) c) cs = (u.cells.toList.zipIdx 0).foldl (fun cs (c, j) => cs.setIfInBounds (off + j) c) cs := by
            rw [← Array.foldl_toList]
            simp
          rw [e1, foldl_set off _ 0 _ (by simp; omega)]
          simp only [Nat.add_zero, setL, Array.length_toList, hul]
          exact ((hc.take off).append hvc).append (hc.drop _)
        obtain ⟨rs, hr, hrs⟩ := fillA_sound h hset (by simpa using hl) (fun j p q h1 h2 => hp (j + 1) p q h1 h2)
        refine ⟨rs, ?_, hrs⟩
        simp only [Instr.fill, hpl]
        rw [if_neg (by simp; omega)]
        exact hr
      · cases h
noncomputable def aBuild (P : Program) (t : TypeId) (parts : List (Nat × AV)) : T AV :=
  match P.info? t, P.underlying t with
  | some it, some (.array _ e) =>
    match it.zero, P.info? e with
    | some z, some ie => (T.ofOpt (fillA (fun i => some (i * ie.size, ie.size)) (z.cells.toList.map .v) parts)).bind fun r => .ret (.agg r)
    | _, _ => .fail
  | some it, some (.struct fields) =>
    match it.zero, fields.toList.mapM (fun f => (P.info? f.type).map fun i => (f.offset, i.size)) with
    | some z, some places => (T.ofOpt (fillA (places.toArray[·]?) (z.cells.toList.map .v) parts)).bind fun r => .ret (.agg r)
    | _, _ => .fail
  | _, _ => .fail
theorem aBuild_sound {t : TypeId} {parts : List (Nat × AV)} {ps : Array (Nat × Value)} {Q : AV → Prop} (h : (aBuild P t parts).sat Q) (hl : ps.size = parts.length)
    (hp : ∀ (j : Nat) (p : Nat × AV) (q : Nat × Value), parts[j]? = some p → ps.toList[j]? = some q → q.1 = p.1 ∧ VR E p.2 q.2) (w : World) : ∃ x v, (Instr.build t ps).run P w = .ok x w ∧ Q v ∧ VR E v x := by
  unfold aBuild at h
  split at h
  · rename_i it n e hi hu
    split at h
    · rename_i z ie hz hie
      rw [T.sat_bind] at h
      obtain ⟨r, hr, hq⟩ := T.sat_ofOpt h
      obtain ⟨rs, h1, h2⟩ := fillA_sound (E := E) (cs := z.cells) (ps := ps.toList) hr (VRs.v _) (by simpa using hl) hp
      refine ⟨_, _, run_build w t ps rs (by simp only [Program.built, hi, hu, hz, hie]; exact h1), hq, ?_⟩
      simp only [VR]; exact ⟨_, rfl, h2⟩
    · exact h.elim
  · rename_i it fields hi hu
    split at h
    · rename_i z places hz hpl
      rw [T.sat_bind] at h
      obtain ⟨r, hr, hq⟩ := T.sat_ofOpt h
      obtain ⟨rs, h1, h2⟩ := fillA_sound (E := E) (cs := z.cells) (ps := ps.toList) hr (VRs.v _) (by simpa using hl) hp
      refine ⟨_, _, run_build w t ps rs (by simp only [Program.built, hi, hu, hz, hpl]; exact h1), hq, ?_⟩
      simp only [VR]; exact ⟨_, rfl, h2⟩
    · exact h.elim
  · exact h.elim

theorem VR.sl_new (M : Mem) (b len cap : Nat) (h : len ≤ cap) : VR (E.put M.length ⟨b, 0, cap⟩) (.sl M.length 0 len .whole) (.slice (some ⟨b, 0, none⟩) len cap) := by
  simp only [VR]
  exact ⟨_, cap, Env.put_self _ _ _, rfl, h, rfl, rfl⟩
def madeL (z : List Value) (n : Nat) : List Value := (List.range n).map fun i => (z[i % z.length]?).getD default
theorem madeL_eq (z : Array Value) (n : Nat) : (madeCells z n).toList = madeL z.toList n := by
  unfold madeCells madeL
  simp only [Array.toList_map, Array.toList_range, Array.length_toList, Array.getElem?_toList]
  apply List.map_congr_left
  intro i _
  simp [Array.getElem!_eq_getD, Array.getD_eq_getD_getElem?]
noncomputable def aBuildSlice (P : Program) (t : TypeId) (len : Nat) (parts : List (Nat × AV)) (M : Mem) : T (AV × Mem) :=
  match P.underlying t with
  | some (.slice elem) =>
    match P.info? elem with
    | some ie =>
      match ie.zero with
      | some z =>
        if len = 0 then
          match parts with
          | [] => (aNew elem ie.size [] M).bind fun M' => .ret (.sl M.length 0 0 .whole, M')
          | _ => .fail
        else
        (T.guard (decide (len * ie.size ≤ 2 ^ 24 ∧ 0 < len * ie.size)) (T.ofOpt (fillA (fun i => some (i * ie.size, ie.size)) ((madeL z.cells.toList (len * ie.size)).map .v) parts))).bind fun r =>
        (T.guard (decide (r.length = len * ie.size)) (aNew elem ie.size r M)).bind fun M' => .ret (.sl M.length 0 len .whole, M')
      | none => .fail
    | none => .fail
  | _ => .fail
theorem aBuildSlice_sound {t : TypeId} {len : Nat} {parts : List (Nat × AV)} {ps : Array (Nat × Value)} {Q : AV × Mem → Prop} (h : (aBuildSlice P t len parts M).sat Q) (hl : ps.size = parts.length)
    (hp : ∀ (j : Nat) (p : Nat × AV) (q : Nat × Value), parts[j]? = some p → ps.toList[j]? = some q → q.1 = p.1 ∧ VR E p.2 q.2) (hR : R E M w) : Ans E M w Q ((Instr.buildSlice t len ps).run P w) := by
  unfold aBuildSlice at h
  split at h
  · rename_i elem ht
    split at h
    · rename_i ie hie
      split at h
      · rename_i z hz
        by_cases hl0 : len = 0
        · rw [if_pos hl0] at h
          cases parts with
          | cons p ps => exact h.elim
          | nil =>
            have hps : ps = #[] := by
              have : ps.size = 0 := by simpa using hl
              exact Array.eq_empty_of_size_eq_zero this
            subst hps hl0
            rw [T.sat_bind] at h
            obtain ⟨h1, h⟩ := T.sat_guard h
            refine ⟨_, _, ?_, _, _, _, h, VR.sl_new M w.heap.size 0 0 (Nat.le_refl _), Step.alloc (cap := 0) (us := #[]) hR (by simp [VRs]) rfl (fun _ => rfl) (by simp) (Nat.zero_le _)⟩
            simp [Instr.buildSlice, run_underlying ht, run_sizeOf hie, Instr.fill, newRow, Array.range_zero']
        rw [if_neg hl0] at h
        rw [T.sat_bind] at h
        obtain ⟨h0, h⟩ := T.sat_guard h
        have h0 := of_decide_eq_true h0
        obtain ⟨r, hr, h⟩ := T.sat_ofOpt h
        rw [← madeL_eq] at hr
        rw [T.sat_bind] at h
        obtain ⟨h2, h⟩ := T.sat_guard h
        have h2 := of_decide_eq_true h2
        unfold aNew at h
        obtain ⟨h3, h⟩ := T.sat_guard h
        obtain ⟨rs, h4, h5⟩ := fillA_sound (E := E) (cs := madeCells z.cells (len * ie.size)) (ps := ps.toList) hr (VRs.v _) (by simpa using hl) hp
        have hrl := h5.length
        simp only [Array.length_toList] at hrl
        refine ⟨_, _, ?_, _, _, _, h, VR.sl_new M w.heap.size len len (Nat.le_refl _), Step.alloc (cap := len) (us := rs) hR h5 h3 (fun h => h) (by omega) ?_⟩
        · have n1 : ¬ (2 ^ 24 < len * ie.size) := by omega
          have n2 : ¬ (len = 0 ∨ ie.size = 0) := by
            rintro (h' | h') <;> simp [h'] at h0
          have h4' : Instr.fill (fun i => some (i * ie.size, ie.size)) (Array.map (fun x => z.cells[x % z.cells.size]!) (Array.range (len * ie.size))) ps.toList = some rs := h4
          have n1' : ¬ (16777216 < len * ie.size) := by simpa using n1
          simp [Instr.buildSlice, run_underlying ht, run_sizeOf hie, n1', zeroValue, typeInfo, hie, hz, h4', newRow]
          intro h'
          omega
        · unfold maxLen
          have := Nat.le_mul_of_pos_right len (Nat.pos_of_mul_pos_left h0.2)
          omega
      · exact h.elim
    · exact h.elim
  · exact h.elim

/-- A made slice of elements of one cell. -/
noncomputable def aMakeSlice (P : Program) (t : TypeId) (l c : AV) (M : Mem) : T (AV × Mem) :=
  match P.underlying t, l, c with
  | some (.slice elem), .v (.int _ l), .v (.int _ c) =>
    match P.info? elem with
    | some ie =>
      match ie.zero with
      | some z =>
        (T.guard (z.oneCell' && (ie.size == 1)) (T.guard (decide (l = c ∧ 0 ≤ c ∧ (ie.bytes : Int) * c ≤ 281474976710656 ∧ c ≤ 4611686018427387904)) (aNew elem 1 (List.replicate c.toNat (.v z)) M))).bind fun M' => .ret (.sl M.length 0 c.toNat .whole, M')
      | none => .fail
    | none => .fail
  | _, _, _ => .fail
theorem aMakeSlice_sound {t : TypeId} {l c : AV} {lr cr : Value} {Q : AV × Mem → Prop} (h : (aMakeSlice P t l c M).sat Q) (hl : VR E l lr) (hc : VR E c cr) (hR : R E M w) : Ans E M w Q ((Instr.makeSlice t lr cr).run P w) := by
  unfold aMakeSlice at h
  split at h
  · rename_i elem kl l kc c ht
    simp only [VR] at hl hc
    subst hl hc
    split at h
    · rename_i ie hie
      split at h
      · rename_i z hz
        rw [T.sat_bind] at h
        obtain ⟨h0, h⟩ := T.sat_guard h
        obtain ⟨h1, h⟩ := T.sat_guard h
        obtain ⟨rfl, h2, h3, h4⟩ := of_decide_eq_true h1
        unfold aNew at h
        obtain ⟨h5, h⟩ := T.sat_guard h
        simp only [Bool.and_eq_true, beq_iff_eq] at h0
        have hr := run_make (P := P) w t elem ie z ht hie hz kl kc l l h2 (Int.le_refl _) h3 (by omega)
        rw [h0.2, Nat.mul_one] at hr
        have hzc : z.cells = #[z] := by
          have := h0.1
          cases z <;> simp_all [Value.oneCell', Value.cells]
        have hmade : (madeCells z.cells l.toNat).toList = List.replicate l.toNat z := by
          unfold madeCells
          rw [hzc]
          apply List.ext_getElem
          · simp
          · intro i h1 h2
            simp [Nat.mod_one]
        refine ⟨_, _, hr, _, _, _, h, VR.sl_new M w.heap.size l.toNat l.toNat (Nat.le_refl _), Step.alloc (cap := l.toNat) (us := madeCells z.cells l.toNat) hR ?_ h5 (fun h => h) (by rw [size_madeCells]; omega) (by unfold maxLen; omega)⟩
        rw [hmade, ← List.map_replicate]
        exact VRs.v _
      · exact h.elim
    · exact h.elim
  · exact h.elim
end
end Go.Proofs.YtnpggmdpokcakaaGreatDoor.AM
namespace Go.Proofs.YtnpggmdpokcakaaGreatDoor.AM
open Go.RowKit
theorem old_alloc (w : World) (o : Obj) (i : Nat) (h : i < w.heap.size) : (w.alloc o).heap[i]? = w.heap[i]? := by
  show (w.heap.push o)[i]? = w.heap[i]?
  rw [Array.getElem?_push, if_neg (Nat.ne_of_lt h)]
variable [Base]
section
variable {P : Program} {E : Env} {M : Mem} {w : World}

/-- The elements that are appended: some cells, at least one element. -/
noncomputable def aSrc (sz : Nat) (x : AV) (M : Mem) : Option (Nat × List AV × Bool) :=
  match x with
  | .sl n off len _ =>
    match M.at n with
    | some ab => some (len, (ab.cells.drop off).take (len * sz), ab.flat)
    | none => none
  | _ => none
theorem aSrc_sound {sz : Nat} {x : AV} {u : Value} {len : Nat} {cs : List AV} {fl : Bool} (h : aSrc sz x M = some (len, cs, fl)) (hx : VR E x u) (hR : R E M w) (hl : cs.length = len * sz) :
    ∃ (a : Addr) (c : Nat) (us : List Value), u = .slice (some a) len c ∧ us.length = len * sz ∧ VRs E cs us ∧ (∀ j v, us[j]? = some v → w.cell? (a.add j) = some v) ∧ (∀ c ∈ cs, c.one = true) ∧ (fl = true → ∀ c ∈ cs, c.isV = true) := by
  unfold aSrc at h
  split at h
  · rename_i n off len' cap
    simp only [VR] at hx
    obtain ⟨e, c, he, rfl, _⟩ := hx
    split at h
    · rename_i ab hab
      simp only [Option.some.injEq, Prod.mk.injEq] at h
      obtain ⟨rfl, rfl, rfl⟩ := h
      obtain ⟨e', he', hb⟩ := hR.live _ _ (Mem.at_some hab)
      rw [he] at he'
      injection he' with he'
      subst he'
      rcases Nat.lt_or_ge 0 (len' * sz) with h0 | h0
      · have hle : off + len' * sz ≤ ab.cells.length := by simp at hl; omega
        obtain ⟨us, h1, h2, h3⟩ := cells_range hb off (len' * sz) hle
        exact ⟨_, c, us, rfl, h1, h2, h3, fun c hc => hb.one c (List.mem_of_mem_drop (List.mem_of_mem_take hc)), fun hf c hc => hb.flat hf c (List.mem_of_mem_drop (List.mem_of_mem_take hc))⟩
      · have hz : len' * sz = 0 := by omega
        rw [hz]
        exact ⟨_, c, [], rfl, rfl, by simp [VRs], fun j v hv => by simp at hv, fun c hc => by simp at hc, fun _ c hc => by simp at hc⟩
    · cases h
  · cases h
/-- One own row turned into a longer one, in its place or elsewhere. -/
theorem Step.regrow {E : Env} {M : Mem} {w w' : World} (h : R E M w) {n : Nat} {ab ab' : AB} {e e' : Ent} (hn : M[n]? = some (some ab)) (ho : ab.own = true) (he : E n = some e) (ho' : ab'.own = true)
    (hos : w'.os = w.os) (htape : w'.tape = w.tape) (hout : w'.output = w.output) (hsz : w.heap.size ≤ w'.heap.size) (hb : ∀ b, b < w.heap.size → b ≠ e.b → w'.heap[b]? = w.heap[b]?) (hnew : RB (E.put M.length e') w' ab' e') (hlt' : e'.b < w'.heap.size) (hwhere : e'.b = e.b ∨ w.heap.size ≤ e'.b) :
    Step E M w (E.put M.length e') (M.set n none ++ [some ab']) w' := by
  have hlt : n < M.length := (List.getElem?_eq_some_iff.1 hn).1
  have hle := Env.le_put (E := E) (n := M.length) e' (h.fresh _ (Nat.le_refl _))
  have hother : ∀ {k : Nat} {x : Ent}, k ≠ M.length → E.put M.length e' k = some x → E k = some x := fun hn he => by simpa [Env.put, hn] using he
  have hget : ∀ {k : Nat} {x : AB}, (M.set n none ++ [some ab'])[k]? = some (some x) → k ≠ n ∧ k < M.length ∧ M[k]? = some (some x) ∨ k = M.length ∧ x = ab' := fun {k x} hk => by
    rcases get_push_lt hk with ⟨hk, hl⟩ | ⟨hk, hx⟩
    · simp only [List.length_set] at hl
      by_cases hkn : k = n
      · subst hkn; rw [List.getElem?_set_self hlt] at hk; cases hk
      · rw [List.getElem?_set_ne (fun e => hkn e.symm)] at hk; exact .inl ⟨hkn, hl, hk⟩
    · simp only [List.length_set] at hk
      injection hx with hx
      exact .inr ⟨hk, hx⟩
  refine ⟨hle, put_old _, by simp, fun k x hk => ?_, ⟨fun k hk => ?_, fun k x hx => ?_, fun k x hk => ?_, fun k m x y e1 e2 hk hm hox hne he1 he2 => ?_, Base.pres w w' (fun b hb' => hb b (h.gle b hb') (fun hbe => h.base n ab e hn ho he (hbe ▸ hb'))) h.inv, fun b hb' => Nat.lt_of_lt_of_le (h.gle b hb') hsz, fun k x e1 hk hox he1 => ?_⟩, hos, htape, hout, hsz, fun b hb' hnb => hb b hb' (fun hbe => hnb n ab e hn ho he hbe.symm), fun k x e1 hk hox he1 => ?_⟩
  · rcases hget hk with ⟨hkn, hkl, hk⟩ | ⟨rfl, rfl⟩
    · exact ⟨fun _ => ⟨x, hk, rfl⟩, fun _ => by omega⟩
    · exact ⟨fun hl => by omega, fun _ => ho'⟩
  · simp only [List.length_append, List.length_set, List.length_cons, List.length_nil] at hk
    simp only [Env.put]
    rw [if_neg (by omega)]
    exact h.fresh k (by omega)
  · by_cases hkm : k = M.length
    · subst hkm; rw [Env.put_self] at hx; injection hx with hx; subst hx; exact hlt'
    · exact Nat.lt_of_lt_of_le (h.dom k x (hother hkm hx)) hsz
  · rcases hget hk with ⟨hkn, hkl, hk⟩ | ⟨rfl, rfl⟩
    · obtain ⟨e1, he1, hb1⟩ := h.live k x hk
      exact ⟨e1, hle _ _ he1, hb1.keep hle (hb _ (h.dom k e1 he1) (fun hbb => h.inj n k ab x e e1 hn hk ho (fun hh => hkn hh.symm) he he1 hbb.symm))⟩
    · exact ⟨e', Env.put_self _ _ _, hnew⟩
  · rcases hget hk with ⟨hkn, hkl, hk'⟩ | ⟨hkM, hx⟩
    · have he1' := hother (by omega) he1
      rcases hget hm with ⟨hmn, hml, hm'⟩ | ⟨hmM, hy⟩
      · exact h.inj k m x y e1 e2 hk' hm' hox hne he1' (hother (by omega) he2)
      · rw [hmM, Env.put_self] at he2
        injection he2 with he2
        subst he2
        rcases hwhere with hw | hw
        · rw [hw]
          exact fun hh => h.inj n k ab x e e1 hn hk' ho (fun hh => hkn hh.symm) he he1' hh.symm
        · have := h.dom k e1 he1'
          omega
    · rw [hkM, Env.put_self] at he1
      injection he1 with he1
      subst he1
      rcases hget hm with ⟨hmn, hml, hm'⟩ | ⟨hmM, hy⟩
      · have he2' := hother (by omega) he2
        rcases hwhere with hw | hw
        · rw [hw]
          exact h.inj n m ab y e e2 hn hm' ho (fun hh => hmn hh.symm) he he2'
        · have := h.dom m e2 he2'
          omega
      · exact (hne (hkM.trans hmM.symm)).elim
  · rcases hget hk with ⟨hkn, hkl, hk'⟩ | ⟨hkM, hx⟩
    · exact h.base k x e1 hk' hox (hother (by omega) he1)
    · rw [hkM, Env.put_self] at he1
      injection he1 with he1
      subst he1
      rcases hwhere with hw | hw
      · rw [hw]; exact h.base n ab e hn ho he
      · exact fun hk => by have := h.gle _ hk; omega
  · rcases hget hk with ⟨hkn, hkl, hk'⟩ | ⟨hkM, hx⟩
    · exact .inr ⟨k, x, hk', hox, e1, hother (by omega) he1, rfl⟩
    · rw [hkM, Env.put_self] at he1
      injection he1 with he1
      subst he1
      rcases hwhere with hw | hw
      · exact .inr ⟨n, ab, hn, ho, e, he, hw.symm⟩
      · exact .inl hw
/-- What holds of a row that a law of the kit's hands back. -/
theorem RB.of_owns {E : Env} {w : World} {elem sz : Nat} {g len cap : Nat} {cells : List AV} {us : List Value} {flat : Bool} (h : w.ownsRow 0 elem sz (.slice (some ⟨g, 0, none⟩) len cap) len us) (hv : VRs E cells us) (h1 : ∀ c ∈ cells, c.one = true) (hf : flat = true → ∀ c ∈ cells, c.isV = true) :
    RB E w ⟨true, flat, elem, sz, cells⟩ ⟨g, 0, cap⟩ ∧ len ≤ cap := by
  obtain ⟨hl, h | ⟨g', cap', cur, hs, _, hg, hlc, hcm, hcs, htk⟩⟩ := h
  · cases h.1
  · injection hs with e1 _ e2
    injection e1 with e1
    injection e1 with e1
    subst e1 e2
    refine ⟨⟨hf, h1, fun j a ha => ?_, fun _ => ⟨rfl, cur, hg, hcs, hcm, ?_⟩⟩, hlc⟩
    · obtain ⟨u, h2, h3⟩ := hv.get ha
      refine ⟨u, ?_, h3⟩
      rw [← htk, List.getElem?_take] at h2
      split at h2
      · simpa [World.cell?, hg] using h2
      · cases h2
    · have := hv.length
      show cells.length ≤ cur.size
      rw [hcs, ← this, hl]
      exact Nat.mul_le_mul_right _ hlc
theorem grownBy_none {w w' : World} {row : Option Nat} (h : w.grownBy w' row) (hr : row = none) : ∀ b, b < w.heap.size → w'.heap[b]? = w.heap[b]? := fun b hb => h.block b hb (by rw [hr]; simp)
theorem flat_or {cs : List AV} {fl : Bool} (h : fl = true → ∀ c ∈ cs, c.isV = true) (hf : (fl || cs.all AV.isV) = true) : ∀ c ∈ cs, c.isV = true := by
  cases fl
  · exact List.all_eq_true.1 hf
  · exact h rfl
noncomputable def aAppend (P : Program) (t : TypeId) (s x : AV) (M : Mem) : T (AV × Mem) :=
  match P.underlying t with
  | some (.slice elem) =>
    match P.info? elem with
    | some ie =>
      match ie.zero, aSrc ie.size x M with
      | some z, some (m, cs, fl) =>
        T.guard ((z.cells.size == ie.size) && decide (0 < ie.size)) <|
        match s with
        | .v (.slice none 0 0) =>
          T.guard (decide (cs.length = m * ie.size ∧ 0 < m ∧ m ≤ maxLen ∧ m * ie.bytes ≤ 140737488355328)) <|
          .ret (.sl M.length 0 m .whole, M ++ [some ⟨true, fl || cs.all AV.isV, elem, ie.size, cs⟩])
        | .sl n off len cap =>
          match M.at n with
          | some ab =>
            match cap with
            | .whole =>
              T.guard (ab.own && (ab.elem == elem) && (ab.sz == ie.size)) <|
              T.guard (decide (off = 0 ∧ ab.cells.length = len * ie.size ∧ cs.length = m * ie.size ∧ 0 < m ∧ len + m ≤ maxLen ∧ (len + m) * ie.bytes ≤ 140737488355328)) <|
              .ret (.sl M.length 0 (len + m) .whole, M.set n none ++ [some ⟨true, ab.flat && (fl || cs.all AV.isV), elem, ie.size, ab.cells ++ cs⟩])
            | .ex c =>
              T.guard (decide (cs.length = m * ie.size ∧ off + len * ie.size ≤ ab.cells.length ∧ c < len + m ∧ 0 < m ∧ len + m ≤ maxLen ∧ (len + m) * ie.bytes ≤ 140737488355328)) <|
              .ret (.sl M.length 0 (len + m) .whole, M ++ [some ⟨true, ab.flat && (fl || cs.all AV.isV), elem, ie.size, (ab.cells.drop off).take (len * ie.size) ++ cs⟩])
            | .any => .fail
          | none => .fail
        | _ => .fail
      | _, _ => .fail
    | none => .fail
  | _ => .fail
set_option maxHeartbeats 1000000 in
theorem aAppend_sound {t ty : TypeId} {s x : AV} {u y : Value} {Q : AV × Mem → Prop} (h : (aAppend P t s x M).sat Q) (hs : VR E s u) (hx : VR E x y) (hR : R E M w) : Ans E M w Q ((Builtin.append_ #[t, t] ty #[u, y]).run P w) := by
  unfold aAppend at h
  split at h
  · rename_i elem ht
    split at h
    · rename_i ie hie
      split at h
      · rename_i z m cs fl hz hsrc
        obtain ⟨h0, h⟩ := T.sat_guard h
        simp only [Bool.and_eq_true, beq_iff_eq, decide_eq_true_eq] at h0
        split at h
        · obtain ⟨h1, h⟩ := T.sat_guard h
          obtain ⟨h1, h2, h3, h4⟩ := of_decide_eq_true h1
          obtain ⟨a, c, us, rfl, hul, hv, hc, hone, hfl⟩ := aSrc_sound hsrc hx hR h1
          simp only [VR] at hs
          subst hs
          obtain ⟨g, cap, w', hr, hown, hgr, hwhere, hlt⟩ := run_append_lies (P := P) w t ty 0 elem ie z ie.size ie.bytes ht hie hz rfl rfl h0.1 h0.2 (.slice none 0 0) 0 [] (World.ownsRow_nil w 0 elem ie.size) a m c us hul hc (hv.one (List.all_eq_true.2 hone)) h2 (by omega) (by simpa using h4) (Nat.zero_le _) _ rfl
          have hg : g = w.heap.size := by
            rcases hwhere with h' | h'
            · simp [Value.ownBlock] at h'
            · exact h'
          subst hg
          simp only [Nat.zero_add, List.nil_append] at hr hown
          obtain ⟨hb, hlc⟩ := RB.of_owns (flat := fl || cs.all AV.isV) hown (hv.mono (Env.le_put (E := E) (n := M.length) ⟨w.heap.size, 0, cap⟩ (hR.fresh _ (Nat.le_refl _)))) hone (flat_or hfl)
          exact ⟨_, _, hr, _, _, _, h, VR.sl_new M w.heap.size m cap hlc, Step.fresh hR rfl hgr.os hgr.tape hgr.output hgr.size (grownBy_none hgr rfl) hb hlt (Nat.le_refl _)⟩
        · rename_i n off len cap _
          simp only [VR] at hs
          obtain ⟨e, c, he, rfl, hlc, hcap⟩ := hs
          split at h
          · rename_i ab hab
            obtain ⟨e', he', hb⟩ := hR.live _ _ (Mem.at_some hab)
            rw [he] at he'
            injection he' with he'
            subst he'
            split at h
            · obtain ⟨h1, h⟩ := T.sat_guard h
              simp only [Bool.and_eq_true, beq_iff_eq] at h1
              obtain ⟨⟨ho, hel⟩, hsz⟩ := h1
              obtain ⟨h2', hq⟩ := T.sat_guard h
              clear h
              obtain ⟨rfl, h2, h3, h4, h5, h6⟩ := of_decide_eq_true h2'
              obtain ⟨a, cx, us, rfl, hul, hv, hc, hone, hfl⟩ := aSrc_sound hsrc hx hR h3
              obtain ⟨hz0, cur, hg, hcs, hcm, hle⟩ := hb.own ho
              simp only [Cp.fits] at hcap
              obtain ⟨olds, ho1, ho2, ho3⟩ := cells_range hb 0 (len * ie.size) (by omega)
              rw [hsz] at hcs
              rw [hel] at hg
              have htake : cur.toList.take (len * ie.size) = olds := by
                apply List.ext_getElem?
                intro j
                rw [List.getElem?_take]
                by_cases hj : j < len * ie.size
                · rw [if_pos hj]
                  have hjo : j < olds.length := by rw [ho1]; exact hj
                  have h7 := ho3 j _ (List.getElem?_eq_getElem hjo)
                  rw [List.getElem?_eq_getElem hjo, ← h7, Addr.add_lit]
                  simp [World.cell?, hz0, hg]
                · rw [if_neg hj, List.getElem?_eq_none (by rw [ho1]; exact Nat.le_of_not_lt hj)]
              have hown : w.ownsRow 0 elem ie.size (.slice (some ⟨e.b, 0, none⟩) len c) len olds := ⟨ho1, .inr ⟨e.b, c, cur, rfl, Nat.zero_le _, hg, hlc, by rw [hcap.2]; exact hcm, by rw [hcap.2]; exact hcs, htake⟩⟩
              obtain ⟨g, cap', w', hr, hown', hgr, hwhere, hlt⟩ := run_append_lies (P := P) w t ty 0 elem ie z ie.size ie.bytes ht hie hz rfl rfl h0.1 h0.2 _ len olds hown a m cx us hul hc (hv.one (List.all_eq_true.2 hone)) h4 h5 h6 (Nat.zero_le _) _ rfl
              have hzz : e.off + 0 = 0 := by omega
              rw [hzz]
              have hcells : (ab.cells.drop 0).take (len * ie.size) = ab.cells := by rw [List.drop_zero, ← h2, List.take_length]
              rw [hcells] at ho2
              have hmn := Env.le_put (E := E) (n := M.length) ⟨g, 0, cap'⟩ (hR.fresh _ (Nat.le_refl _))
              obtain ⟨hb', hlc'⟩ := RB.of_owns (flat := ab.flat && (fl || cs.all AV.isV)) hown' ((ho2.append hv).mono hmn) (fun x hx => by
                rcases List.mem_append.1 hx with hx | hx
                · exact hb.one x hx
                · exact hone x hx) (fun hf x hx => by
                simp only [Bool.and_eq_true] at hf
                rcases List.mem_append.1 hx with hx | hx
                · exact hb.flat hf.1 x hx
                · exact flat_or hfl hf.2 x hx)
              refine ⟨_, _, hr, _, _, _, hq, VR.sl_new M g (len + m) cap' hlc', Step.regrow hR (Mem.at_some hab) ho he rfl hgr.os hgr.tape hgr.output hgr.size (fun b hb hne => hgr.block b hb (by simp [Value.ownBlock, hne])) hb' hlt ?_⟩
              rcases hwhere with h' | h'
              · simp only [Value.ownBlock, Option.some.injEq] at h'; exact .inl h'.symm
              · exact .inr (by rw [h']; exact Nat.le_refl _)
            · rename_i cx0
              obtain ⟨h1', hq⟩ := T.sat_guard h
              clear h
              obtain ⟨h1, h2, h3, h4, h5, h6⟩ := of_decide_eq_true h1'
              obtain ⟨a, cx, us, rfl, hul, hv, hc, hone, hfl⟩ := aSrc_sound hsrc hx hR h1
              simp only [Cp.fits] at hcap
              subst hcap
              obtain ⟨olds, ho1, ho2, ho3⟩ := cells_range hb off (len * ie.size) h2
              have hn := nextslicecap_le h3
              have hfit : Builtin.nextslicecap (len + m) c * ie.bytes ≤ 281474976710656 := by
                have h7 := Nat.mul_le_mul_right ie.bytes hn
                have h8 : 2 * (len + m) * ie.bytes = 2 * ((len + m) * ie.bytes) := Nat.mul_assoc ..
                omega
              have hr := run_append_grow (P := P) w t ty elem ie z ht hie hz ⟨e.b, e.off + off, none⟩ len c olds ho1 ho3 a m cx us hul hc h3 (by unfold maxLen at h5; omega) hfit
              have hgc := grownCap_ge w (len + m) c elem
              have hgm := grownCap_le_maxLen w (len + m) c elem h5
              have hle := Env.le_put (E := E) (n := M.length) ⟨w.heap.size, 0, grownCap w (len + m) c elem⟩ (hR.fresh _ (Nat.le_refl _))
              have hlen : (olds ++ us).length = (len + m) * ie.size := by rw [List.length_append, ho1, hul, Nat.add_mul]
              have hown : (w.drew.alloc (.cells (olds.toArray ++ us.toArray ++ Builtin.zeroCells z.cells (grownCap w (len + m) c elem - (len + m))) elem)).ownsRow 0 elem ie.size (.slice (some ⟨w.heap.size, 0, none⟩) (len + m) (grownCap w (len + m) c elem)) (len + m) (olds ++ us) := by
                refine ⟨hlen, .inr ⟨w.heap.size, _, _, rfl, Nat.zero_le _, heap_alloc_new w.drew _, hgc, hgm, ?_, ?_⟩⟩
                · simp only [Array.size_append, List.size_toArray, size_zeroCells, h0.1, ho1, hul, ← Nat.add_mul]
                  congr 1
                  omega
                · simp only [Array.toList_append]
                  rw [← hlen]
                  exact List.take_left
              obtain ⟨hb', hlc'⟩ := RB.of_owns (flat := ab.flat && (fl || cs.all AV.isV)) hown ((ho2.append hv).mono hle) (fun x hx => by
                rcases List.mem_append.1 hx with hx | hx
                · exact hb.one x (List.mem_of_mem_drop (List.mem_of_mem_take hx))
                · exact hone x hx) (fun hf x hx => by
                simp only [Bool.and_eq_true] at hf
                rcases List.mem_append.1 hx with hx | hx
                · exact hb.flat hf.1 x (List.mem_of_mem_drop (List.mem_of_mem_take hx))
                · exact flat_or hfl hf.2 x hx)
              refine ⟨_, _, hr, _, _, _, hq, VR.sl_new M w.heap.size (len + m) _ hlc', Step.fresh hR rfl rfl rfl rfl ?_ (fun b hb => old_alloc w.drew _ b hb) hb' ?_ (Nat.le_refl _)⟩
              · have := alloc_size w.drew (.cells (olds.toArray ++ us.toArray ++ Builtin.zeroCells z.cells (grownCap w (len + m) c elem - (len + m))) elem)
                have h9 : w.drew.heap.size = w.heap.size := rfl
                omega
              · have := alloc_size w.drew (.cells (olds.toArray ++ us.toArray ++ Builtin.zeroCells z.cells (grownCap w (len + m) c elem - (len + m))) elem)
                have h9 : w.drew.heap.size = w.heap.size := rfl
                show w.heap.size < _
                omega
            · exact h.elim
          · exact h.elim
        · exact h.elim
      · exact h.elim
    · exact h.elim
  · exact h.elim

/-- Elements copied into an own row. -/
noncomputable def aCopy (P : Program) (t : TypeId) (d x : AV) (M : Mem) : T (AV × Mem) :=
  match P.underlying t, d, x with
  | some (.slice elem), .sl n off dl _, .sl m off2 sl _ =>
    match P.info? elem, M.at n, M.at m with
    | some ie, some ab, some sb =>
      T.guard ab.own <|
      T.guard (decide (off2 + min sl dl * ie.size ≤ sb.cells.length ∧ off + min sl dl * ie.size ≤ ab.cells.length)) <|
      .ret (.v (.int .i64 ((min sl dl : Nat) : Int)), M.set n (some { ab with flat := ab.flat && (sb.flat || ((sb.cells.drop off2).take (min sl dl * ie.size)).all AV.isV), cells := setL ab.cells off ((sb.cells.drop off2).take (min sl dl * ie.size)) }))
    | _, _, _ => .fail
  | _, _, _ => .fail
theorem aCopy_sound {t ty t' : TypeId} {d x : AV} {u y : Value} {Q : AV × Mem → Prop} (h : (aCopy P t d x M).sat Q) (hd : VR E d u) (hx : VR E x y) (hR : R E M w) : Ans E M w Q ((Builtin.copy_ #[t, t'] ty #[u, y]).run P w) := by
  unfold aCopy at h
  split at h
  · rename_i elem n off dl cd m off2 sl cs ht
    simp only [VR] at hd hx
    obtain ⟨e, c, he, rfl, _⟩ := hd
    obtain ⟨e2, c2, he2, rfl, _⟩ := hx
    split at h
    · rename_i ie ab sb hie hab hsb
      obtain ⟨ho, h⟩ := T.sat_guard h
      obtain ⟨h1, h⟩ := T.sat_guard h
      obtain ⟨h1, h2⟩ := of_decide_eq_true h1
      obtain ⟨e', he', hb⟩ := hR.live _ _ (Mem.at_some hab)
      rw [he] at he'
      injection he' with he'
      subst he'
      obtain ⟨e2', he2', hb2⟩ := hR.live _ _ (Mem.at_some hsb)
      rw [he2] at he2'
      injection he2' with he2'
      subst he2'
      obtain ⟨us, hu1, hu2, hu3⟩ := cells_range hb2 off2 (min sl dl * ie.size) h1
      have hone : ((sb.cells.drop off2).take (min sl dl * ie.size)).all AV.one = true := List.all_eq_true.2 fun a ha => hb2.one a (List.mem_of_mem_drop (List.mem_of_mem_take ha))
      have hlen : ((sb.cells.drop off2).take (min sl dl * ie.size)).length = min sl dl * ie.size := by simp; omega
      obtain ⟨w', hr, hs⟩ := Step.store (P := P) hR (Mem.at_some hab) ho he (by rw [hlen]; exact h2) hu2 hone
      have hflat : Step E M w E (M.set n (some { ab with flat := ab.flat && (sb.flat || ((sb.cells.drop off2).take (min sl dl * ie.size)).all AV.isV), cells := setL ab.cells off ((sb.cells.drop off2).take (min sl dl * ie.size)) })) w' := by
        cases hsf : sb.flat with
        | false => simpa using hs
        | true =>
          have hv : ((sb.cells.drop off2).take (min sl dl * ie.size)).all AV.isV = true := List.all_eq_true.2 fun a ha => hb2.flat hsf a (List.mem_of_mem_drop (List.mem_of_mem_take ha))
          rw [hv] at hs
          simpa using hs
      have hf := run_firstCells_some (P := P) w ie.size (min sl dl) ⟨e2.b, e2.off + off2, none⟩ sl c2 us hu1 hu3
      refine ⟨.int .i64 (min sl dl : Nat), w', ?_, E, _, _, h, by simp only [VR], hflat⟩
      have hmin : Nat.min sl dl = min sl dl := rfl
      simp [Builtin.copy_, run_underlying ht, Builtin.lenOf, run_sizeOf hie, hmin, hf, hr, goInt]
    · exact h.elim
  · exact h.elim
end
end Go.Proofs.YtnpggmdpokcakaaGreatDoor.AM
namespace Go.Proofs.YtnpggmdpokcakaaGreatDoor.AM
open Go.RowKit
variable [Base]

abbrev Call := FuncId → List AV → Mem → T (AV × Mem)
structure Cfg where
  P : Program
  ent : FuncId → Bool
  mth : TypeId → String → Option FuncId
structure Cfg.Ok (C : Cfg) : Prop where
  ent : ∀ f, C.ent f = true → ∀ args w, (callFunc f args).run C.P w = .ok (.enter f args) w
  mth : ∀ t name f, C.mth t name = some f → ∀ v args w, (callMethod (.iface t v) name args).run C.P w = .ok (.enter f (#[v] ++ args)) w
/-- What a call hands back. -/
def CallPost (E : Env) (M : Mem) (w : World) (Q : AV × Mem → Prop) (e : Ending) (w' : World) : Prop :=
  ∃ u, e = .returned u ∧ ∃ E' v M', Q (v, M') ∧ VR E' v u ∧ Step E M w E' M' w'
def SoundCall (P : Program) (call : Call) : Prop :=
  ∀ (f : FuncId) (args : List AV) (M : Mem) (Q : AV × Mem → Prop) (E : Env) (w : World) (us : Array Value), (call f args M).sat Q → VRs E args us.toList → R E M w → Calls P f us w (CallPost E M w Q)
def AnsN (P : Program) (E : Env) (M : Mem) (w : World) (Q : AV × Mem → Prop) : Result Next → Prop
  | .ok (.value u) w' => ∃ E' v M', Q (v, M') ∧ VR E' v u ∧ Step E M w E' M' w'
  | .ok .skip w' => ∃ E' v M', Q (v, M') ∧ VR E' v undef ∧ Step E M w E' M' w'
  | .ok (.enter f args) w' => Calls P f args w' (CallPost E M w Q)
  | _ => False

/-! ### Numbers -/
def iAdd (k : IntKind) (x y : Int) : Int := k.wrap (x + y)
def iSub (k : IntKind) (x y : Int) : Int := k.wrap (x - y)
def iMul (k : IntKind) (x y : Int) : Int := k.wrap (x * y)
def iQuo (k : IntKind) (x y : Int) : Int := k.wrap (x.tdiv y)
def iRem (x y : Int) : Int := x.tmod y
def iLt (x y : Int) : Bool := decide (x < y)
def iLe (x y : Int) : Bool := decide (x ≤ y)
def iGt (x y : Int) : Bool := decide (x > y)
def iGe (x y : Int) : Bool := decide (x ≥ y)
def iEq (x y : Int) : Bool := x == y
def iNe (x y : Int) : Bool := x != y
def iMax (x y : Int) : Int := if y > x then y else x
def iMin (x y : Int) : Int := if y < x then y else x
def bNot (b : Bool) : Bool := !b
def isNum : BinOp → Bool
  | .add | .sub | .mul | .quo | .rem | .lss | .leq | .gtr | .geq | .eql | .neq => true
  | _ => false
noncomputable def aBin (op : BinOp) (k : IntKind) (x y : Int) : T AV :=
  match op with
  | .add => .ret (.v (.int k (iAdd k x y)))
  | .sub => .ret (.v (.int k (iSub k x y)))
  | .mul => .ret (.v (.int k (iMul k x y)))
  | .quo => .ite (iEq y 0) .fail (.ret (.v (.int k (iQuo k x y))))
  | .rem => .ite (iEq y 0) .fail (.ret (.v (.int k (iRem x y))))
  | .lss => .ret (.v (.bool (iLt x y)))
  | .leq => .ret (.v (.bool (iLe x y)))
  | .gtr => .ret (.v (.bool (iGt x y)))
  | .geq => .ret (.v (.bool (iGe x y)))
  | .eql => .ret (.v (.bool (iEq x y)))
  | .neq => .ret (.v (.bool (iNe x y)))
  | _ => .fail
theorem run_eqGuard_int {P : Program} (op : BinOp) (t : TypeId) (x y : Operand) (k : IntKind) (a b : Int) (w : World) : (eqGuard op t x y (.int k a) (.int k b)).run P w = .ok () w := by
  unfold eqGuard
  cases op <;> simp
theorem aBin_sound {P : Program} {E : Env} {Q : AV → Prop} {op : BinOp} {t : TypeId} {k : IntKind} {a b : Int} (h : (aBin op k a b).sat Q) (w : World) : ∃ u v, (binOp op t (.int k a) (.int k b)).run P w = .ok u w ∧ Q v ∧ VR E v u := by
  cases op <;> simp only [aBin] at h
  case add => exact ⟨.int k (iAdd k a b), _, by simp [binOp, Op.intArith, iAdd], h, by simp only [VR]⟩
  case sub => exact ⟨.int k (iSub k a b), _, by simp [binOp, Op.intArith, iSub], h, by simp only [VR]⟩
  case mul => exact ⟨.int k (iMul k a b), _, by simp [binOp, Op.intArith, iMul], h, by simp only [VR]⟩
  case quo =>
    cases hb : iEq b 0 with
    | true => exact (h.1 hb).elim
    | false =>
      have hne : b ≠ 0 := by simpa [iEq] using hb
      exact ⟨.int k (iQuo k a b), _, by simp [binOp, Op.intDiv, hne, iQuo], h.2 hb, by simp only [VR]⟩
  case rem =>
    cases hb : iEq b 0 with
    | true => exact (h.1 hb).elim
    | false =>
      have hne : b ≠ 0 := by simpa [iEq] using hb
      exact ⟨.int k (iRem a b), _, by simp [binOp, Op.intDiv, hne, iRem], h.2 hb, by simp only [VR]⟩
  case lss => exact ⟨.bool (iLt a b), _, by simp [binOp, Op.intCmp, iLt], h, by simp only [VR]⟩
  case leq => exact ⟨.bool (iLe a b), _, by simp [binOp, Op.intCmp, iLe], h, by simp only [VR]⟩
  case gtr => exact ⟨.bool (iGt a b), _, by simp [binOp, Op.intCmp, iGt], h, by simp only [VR]⟩
  case geq => exact ⟨.bool (iGe a b), _, by simp [binOp, Op.intCmp, iGe], h, by simp only [VR]⟩
  case eql => exact ⟨.bool (iEq a b), _, by simp [binOp, Op.intCmp, iEq], h, by simp only [VR]⟩
  case neq => exact ⟨.bool (iNe a b), _, by simp [binOp, Op.intCmp, iNe], h, by simp only [VR]⟩
  all_goals exact h.elim

section
variable (C : Cfg) (call : Call) (ρ : Operand → AV)

noncomputable def pairM (M : Mem) (t : T AV) : T (AV × Mem) := t.bind fun v => .ret (v, M)
noncomputable def aPureT (o : Oper) (M : Mem) : T (AV × Mem) := (T.ofOpt (aPure C.P ρ o)).bind fun v => .ret (v, M)
noncomputable def aInvoke (f : AV) (args : List AV) (M : Mem) : T (AV × Mem) :=
  match f with
  | .fn (.func g) b c => T.guard (C.ent g) (call g (b ++ args ++ c) M)
  | _ => .fail
noncomputable def aCall (o : Oper) (c : _root_.Go.Call) (M : Mem) : T (AV × Mem) :=
  match c.callee with
  | .value f => aInvoke C call (ρ f) (c.args.toList.map ρ) M
  | .invoke r name =>
    match ρ r with
    | .ifc t x =>
      match C.mth t name with
      | some g => call g (x :: c.args.toList.map ρ) M
      | none => .fail
    | _ => .fail
  | .builtin .append =>
    match c.args.toList, c.argTypes.toList with
    | [s, x], [t, t'] => T.guard (t == t') (aAppend C.P t (ρ s) (ρ x) M)
    | _, _ => .fail
  | .builtin .max =>
    match c.args.toList.map ρ with
    | [.v (.int k x), .v (.int k' y)] => if k = k' then .ret (.v (.int k (iMax x y)), M) else .fail
    | _ => aPureT C ρ o M
  | .builtin .min =>
    match c.args.toList.map ρ with
    | [.v (.int k x), .v (.int k' y)] => if k = k' then .ret (.v (.int k (iMin x y)), M) else .fail
    | _ => aPureT C ρ o M
  | .builtin .copy =>
    match c.args.toList, c.argTypes.toList with
    | [s, x], [t, _] => aCopy C.P t (ρ s) (ρ x) M
    | _, _ => .fail
  | .builtin .len =>
    match c.args.toList, c.argTypes.toList with
    | [x], [t] =>
      match ρ x, C.P.underlying t with
      | .sl _ _ len _, some (.slice _) => .ret (.v (.int .i64 len), M)
      | _, _ => aPureT C ρ o M
    | _, _ => .fail
  | .builtin _ => aPureT C ρ o M
noncomputable def aOp (o : Oper) (M : Mem) : T (AV × Mem) :=
  match o.op with
  | .move x | .assign x => .ret (ρ x, M)
  | .pick c a b =>
    match ρ c with
    | .v (.bool t) => .ite t (.ret (ρ a, M)) (.ret (ρ b, M))
    | _ => .fail
  | .alloc elem => aAlloc C.P elem M
  | .box elem x => aBox elem (ρ x) M
  | .build t parts => pairM M (aBuild C.P t (parts.toList.map fun p => (p.1, ρ p.2)))
  | .buildSlice t len parts => aBuildSlice C.P t len (parts.toList.map fun p => (p.1, ρ p.2)) M
  | .load t a => pairM M (aLoad C.P t (ρ a) M)
  | .store t a x => (aStore C.P t (ρ a) (ρ x) M).bind fun M' => .ret (.bot, M')
  | .nilCheck x =>
    match ρ x with
    | .ptr n off => .ret (.ptr n off, M)
    | .fn (.func g) b c => .ret (.fn (.func g) b c, M)
    | .ifc t x => .ret (.ifc t x, M)
    | _ => aPureT C ρ o M
  | .makeInterface t x =>
    match C.P.underlying t with
    | some (.interface _) => .fail
    | some _ => .ret (.ifc t (ρ x), M)
    | none => .fail
  | .makeFunc fn b c => T.guard (plain fn) (.ret (.fn fn (b.toList.map ρ) (c.toList.map ρ), M))
  | .makeSlice t l c => aMakeSlice C.P t (ρ l) (ρ c) M
  | .slice t x lo hi mx =>
    match ρ x with
    | .sl n off len cap => pairM M (aSlice C.P t (.sl n off len cap) (lo.map ρ) (hi.map ρ) (mx.map ρ))
    | _ => aPureT C ρ o M
  | .fieldAddr s x f => pairM M (aFieldAddr C.P s (ρ x) f)
  | .field t x f => pairM M (aField C.P t (ρ x) f)
  | .indexAddr t x i => pairM M (aIndexAddr C.P t (ρ x) (ρ i))
  | .extract x k => pairM M (aExtract (ρ x) k)
  | .binOp op t x y _ =>
    match isNum op, ρ x, ρ y with
    | true, .v (.int k a), .v (.int k' b) => if k = k' then pairM M (aBin op k a b) else .fail
    | true, .sl .., .v (.slice none 0 0) =>
      match op, C.P.underlying t with
      | .eql, some (.slice _) => .ret (.v (.bool false), M)
      | .neq, some (.slice _) => .ret (.v (.bool true), M)
      | _, _ => .fail
    | _, _, _ => aPureT C ρ o M
  | .unOp op _ x =>
    match op, ρ x with
    | .not, .v (.bool b) => .ret (.v (.bool (bNot b)), M)
    | .neg, .v (.int k n) => .ret (.v (.int k (iSub k 0 n)), M)
    | _, _ => aPureT C ρ o M
  | .makeMap _ r =>
    match r with
    | none => .ret (.bot, M)
    | some _ => .fail
  | .call c => aCall C call ρ o c M
  | op => if noSel op then aPureT C ρ o M else .fail
end

section
variable {C : Cfg} {call : Call} {ρ : Operand → AV} {ρr : Operand → Value} {E : Env} {M : Mem} {w : World} {Q : AV × Mem → Prop}

theorem VRs.map : ∀ (l : List Operand), (∀ x ∈ l, VR E (ρ x) (ρr x)) → VRs E (l.map ρ) (l.map ρr)
  | [], _ => by simp [VRs]
  | x :: l, h => by
    simp only [List.map_cons, VRs]
    exact ⟨_, _, rfl, h x List.mem_cons_self, VRs.map l fun y hy => h y (List.mem_cons_of_mem _ hy)⟩
theorem pairM_sat {t : T AV} (h : (pairM M t).sat Q) : t.sat fun v => Q (v, M) := T.sat_bind.1 h
theorem ansN_value {r : Result Next} {u : Value} {v : AV} (hr : r = .ok (.value u) w) (hR : R E M w) (hv : VR E v u) (hq : Q (v, M)) : AnsN C.P E M w Q r := by
  rw [hr]; exact ⟨E, v, M, hq, hv, Step.refl hR⟩
theorem ansN_of_ans {s : Sem Value} (h : Ans E M w Q (s.run C.P w)) : AnsN C.P E M w Q ((do pure (.value (← s)) : Sem Next).run C.P w) := by
  obtain ⟨u, w', hr, h⟩ := h
  simp only [Sem.run_bind, hr, Result.andThen_ok, Sem.run_pure]
  exact h
theorem ansN_of_pair {s : Sem Value} (h : ∃ x v, s.run C.P w = .ok x w ∧ Q (v, M) ∧ VR E v x) (hR : R E M w) : AnsN C.P E M w Q ((do pure (.value (← s)) : Sem Next).run C.P w) := by
  obtain ⟨x, v, hr, hq, hv⟩ := h
  exact ansN_of_ans (Ans.same hr hR hv hq)
theorem aPureT_sound {o : Oper} (h : (aPureT C ρ o M).sat Q) (hs : noSel o.op = true) (hρ : ∀ x ∈ o.op.operands, VR E (ρ x) (ρr x)) (hR : R E M w) : AnsN C.P E M w Q ((execOp ρr o).run C.P w) := by
  unfold aPureT at h
  rw [T.sat_bind] at h
  obtain ⟨v, hv, hq⟩ := T.sat_ofOpt h
  obtain ⟨u, h1, h2⟩ := aPure_sound hv hs hρ w
  exact ansN_value h1 hR h2 hq
theorem parts_rel {parts : Array (Nat × Operand)} (hρ : ∀ x ∈ (parts.toList.map (·.2)).toArray, VR E (ρ x) (ρr x)) :
    (parts.map fun (i, x) => (i, ρr x)).size = (parts.toList.map fun p => (p.1, ρ p.2)).length ∧
    ∀ (j : Nat) (p : Nat × AV) (q : Nat × Value), (parts.toList.map fun p => (p.1, ρ p.2))[j]? = some p → (parts.map fun (i, x) => (i, ρr x)).toList[j]? = some q → q.1 = p.1 ∧ VR E p.2 q.2 := by
  refine ⟨by simp, fun j p q hp hq => ?_⟩
  simp only [Array.toList_map, List.getElem?_map, Option.map_eq_some_iff] at hp hq
  obtain ⟨a, ha, rfl⟩ := hp
  obtain ⟨b, hb, rfl⟩ := hq
  rw [ha] at hb
  injection hb with hb
  subst hb
  exact ⟨rfl, hρ a.2 (by simp; exact ⟨a.1, by have := List.mem_of_getElem? ha; simpa using this⟩)⟩
theorem aInvoke_sound (hC : C.Ok) (hcall : SoundCall C.P call) {f : AV} {fr : Value} {args : List AV} {as : Array Value} (h : (aInvoke C call f args M).sat Q) (hf : VR E f fr) (ha : VRs E args as.toList) (hR : R E M w) :
    AnsN C.P E M w Q ((do let d ← Deferred.ofValue fr as; invoke d.target d.args : Sem Next).run C.P w) := by
  unfold aInvoke at h
  split at h
  · rename_i g b c
    simp only [VR] at hf
    obtain ⟨g', bs, cs, rfl, hg, hb, hc⟩ := hf
    obtain rfl : g' = .func g := hg
    obtain ⟨h1, h2⟩ := T.sat_guard h
    simp only [Deferred.ofValue, Sem.run_bind, Sem.run_pure, Result.andThen_ok, invoke, hC.ent g h1]
    exact hcall g _ M Q E w _ h2 (by simpa using (hb.append ha).append hc) hR
  · exact h.elim
theorem aCall_sound (hC : C.Ok) (hcall : SoundCall C.P call) {o : Oper} {c : _root_.Go.Call} (ho : o.op = .call c) (h : (aCall C call ρ o c M).sat Q) (hρ : ∀ x ∈ c.operands, VR E (ρ x) (ρr x)) (hR : R E M w) : AnsN C.P E M w Q ((execOp ρr o).run C.P w) := by
  have hargs : VRs E (c.args.toList.map ρ) (c.args.map ρr).toList := by
    rw [Array.toList_map]
    exact VRs.map _ fun x hx => hρ x (by simp [Call.operands]; exact .inr (by simpa using hx))
  have hpure : (aPureT C ρ o M).sat Q → AnsN C.P E M w Q ((execOp ρr o).run C.P w) := fun h => aPureT_sound h (by rw [ho]; rfl) (by rw [ho]; exact hρ) hR
  unfold aCall at h
  split at h
  · rename_i f hf
    have e : execOp ρr o = (do let d ← Deferred.ofValue (ρr f) (c.args.map ρr); invoke d.target d.args) := by
      simp only [execOp, ho, resolve, hf]
    rw [e]
    exact aInvoke_sound hC hcall h (hρ f (by simp [Call.operands, hf])) hargs hR
  · rename_i r name hf
    split at h
    · rename_i t x hr
      have hx := hρ r (by simp [Call.operands, hf])
      rw [hr] at hx
      simp only [VR] at hx
      obtain ⟨y, hy, hx⟩ := hx
      split at h
      · rename_i g hg
        have e : (execOp ρr o).run C.P w = (callMethod (.iface t y) name (c.args.map ρr)).run C.P w := by
          have e3 : (Array.map ρr c.args).extract 0 c.args.size = Array.map ρr c.args := by
            have := Array.extract_size (xs := Array.map ρr c.args)
            simpa using this
          have e4 : (#[Value.iface t y] ++ Array.map ρr c.args)[0]? = some (Value.iface t y) := by rw [Array.getElem?_append_left (by simp)]; rfl
          simp only [execOp, ho, resolve, hf, Sem.run_bind, Sem.run_pure, Result.andThen_ok, invoke, hy]
          simp [e3, e4]
        rw [e, hC.mth t name g hg]
        exact hcall g _ M Q E w _ h (by simp only [Array.toList_append, List.cons_append, List.nil_append, VRs]; exact ⟨y, _, rfl, hx, hargs⟩) hR
      · exact h.elim
    · exact h.elim
  · rename_i hf
    split at h
    · rename_i s x t t' ha ht
      obtain ⟨h1, h2⟩ := T.sat_guard h
      have h1 : t = t' := by simpa using h1
      subst h1
      have e1 : c.args = #[s, x] := by rw [← Array.toArray_toList (xs := c.args), ha]
      have e2 : c.argTypes = #[t, t] := by rw [← Array.toArray_toList (xs := c.argTypes), ht]
      have e : (execOp ρr o).run C.P w = (do pure (.value (← Builtin.append_ #[t, t] o.type #[ρr s, ρr x])) : Sem Next).run C.P w := by
        simp [execOp, ho, resolve, hf, e1, e2, invoke, builtin]
      rw [e]
      exact ansN_of_ans (aAppend_sound h2 (hρ s (by simp [Call.operands, hf, e1])) (hρ x (by simp [Call.operands, hf, e1])) hR)
    · exact h.elim
  · rename_i hf
    split at h
    · rename_i k x k' y ha
      split at h
      · rename_i hk
        subst hk
        have hargs' := hargs
        rw [ha] at hargs'
        simp only [VRs, VR] at hargs'
        obtain ⟨u1, l1, hl, hu1, u2, l2, hl2, hu2, hl3⟩ := hargs'
        subst hu1 hu2 hl3
        have hl' : c.args.map ρr = #[.int k x, .int k y] := by rw [← Array.toArray_toList (xs := c.args.map ρr), hl, hl2]
        refine ansN_value (u := .int k (iMax x y)) ?_ hR (by simp [VR]) h
        simp [execOp, ho, resolve, hf, hl', invoke, builtin, Builtin.max_, Builtin.max2, iMax]
      · exact h.elim
    · exact hpure h
  · rename_i hf
    split at h
    · rename_i k x k' y ha
      split at h
      · rename_i hk
        subst hk
        have hargs' := hargs
        rw [ha] at hargs'
        simp only [VRs, VR] at hargs'
        obtain ⟨u1, l1, hl, hu1, u2, l2, hl2, hu2, hl3⟩ := hargs'
        subst hu1 hu2 hl3
        have hl' : c.args.map ρr = #[.int k x, .int k y] := by rw [← Array.toArray_toList (xs := c.args.map ρr), hl, hl2]
        refine ansN_value (u := .int k (iMin x y)) ?_ hR (by simp [VR]) h
        simp [execOp, ho, resolve, hf, hl', invoke, builtin, Builtin.min_, Builtin.min2, iMin]
      · exact h.elim
    · exact hpure h
  · rename_i hf
    split at h
    · rename_i s x t t' ha ht
      have e1 : c.args = #[s, x] := by rw [← Array.toArray_toList (xs := c.args), ha]
      have e2 : c.argTypes = #[t, t'] := by rw [← Array.toArray_toList (xs := c.argTypes), ht]
      have e : (execOp ρr o).run C.P w = (do pure (.value (← Builtin.copy_ #[t, t'] o.type #[ρr s, ρr x])) : Sem Next).run C.P w := by
        simp [execOp, ho, resolve, hf, e1, e2, invoke, builtin]
      rw [e]
      exact ansN_of_ans (aCopy_sound h (hρ s (by simp [Call.operands, hf, e1])) (hρ x (by simp [Call.operands, hf, e1])) hR)
    · exact h.elim
  · rename_i hf
    split at h
    · rename_i x t ha ht
      split at h
      · rename_i n off len cap elem hx hu
        have e1 : c.args = #[x] := by rw [← Array.toArray_toList (xs := c.args), ha]
        have e2 : c.argTypes = #[t] := by rw [← Array.toArray_toList (xs := c.argTypes), ht]
        have hxr := hρ x (by simp [Call.operands, hf, e1])
        rw [hx] at hxr
        simp only [VR] at hxr
        obtain ⟨e', c', he, hxr, _⟩ := hxr
        have e : (execOp ρr o).run C.P w = (do pure (.value (← Builtin.len_ #[t] o.type #[ρr x])) : Sem Next).run C.P w := by
          simp [execOp, ho, resolve, hf, e1, e2, invoke, builtin]
        rw [e]
        refine ansN_of_pair ⟨.int .i64 len, _, ?_, h, by simp [VR]⟩ hR
        simp [Builtin.len_, run_underlying hu, hxr, goInt]
      · exact hpure h
    · exact h.elim
  · exact hpure h
set_option maxHeartbeats 1000000 in
theorem aOp_sound (hC : C.Ok) (hcall : SoundCall C.P call) {o : Oper} (h : (aOp C call ρ o M).sat Q) (hρ : ∀ x ∈ o.op.operands, VR E (ρ x) (ρr x)) (hR : R E M w) : AnsN C.P E M w Q ((execOp ρr o).run C.P w) := by
  obtain ⟨dst, op, type, pos, after, guard⟩ := o
  have mv : ∀ x, VR E (ρ x) (ρr x) → Q (ρ x, M) → AnsN C.P E M w Q ((pure (.value (ρr x)) : Sem Next).run C.P w) := fun x hx hq => ansN_value rfl hR hx hq
  cases op <;> simp only [aOp] at h
  case move x => exact mv x (hρ x (by simp [Op.operands])) h
  case assign x => exact mv x (hρ x (by simp [Op.operands])) h
  case pick c a b =>
    split at h
    · rename_i t hc
      have hcr := hρ c (by simp [Op.operands])
      rw [hc] at hcr
      simp only [VR] at hcr
      cases t
      · refine ansN_value (u := ρr b) ?_ hR (hρ b (by simp [Op.operands])) (h.2 rfl)
        simp [execOp, hcr, asBool]
      · refine ansN_value (u := ρr a) ?_ hR (hρ a (by simp [Op.operands])) (h.1 rfl)
        simp [execOp, hcr, asBool]
    · exact h.elim
  case alloc elem => exact ansN_of_ans (aAlloc_sound _ h hR)
  case box elem x => exact ansN_of_ans (aBox_sound h (hρ x (by simp [Op.operands])) hR)
  case build t parts =>
    obtain ⟨h1, h2⟩ := parts_rel (E := E) (ρ := ρ) (ρr := ρr) (parts := parts) (fun x hx => hρ x (by simpa [Op.operands] using hx))
    exact ansN_of_pair (aBuild_sound (pairM_sat h) h1 h2 w) hR
  case buildSlice t len parts =>
    obtain ⟨h1, h2⟩ := parts_rel (E := E) (ρ := ρ) (ρr := ρr) (parts := parts) (fun x hx => hρ x (by simpa [Op.operands] using hx))
    exact ansN_of_ans (aBuildSlice_sound h h1 h2 hR)
  case load t a => exact ansN_of_pair (aLoad_sound (pairM_sat h) (hρ a (by simp [Op.operands])) hR) hR
  case store t a x =>
    rw [T.sat_bind] at h
    obtain ⟨M', w', hr, hq, hs⟩ := aStore_sound h (hρ a (by simp [Op.operands])) (hρ x (by simp [Op.operands])) hR
    simp only [execOp, Sem.run_bind, hr, Result.andThen_ok, Sem.run_pure, AnsN]
    exact ⟨E, .bot, M', hq, by simp [VR], hs⟩
  case nilCheck x =>
    have hx := hρ x (by simp [Op.operands])
    split at h
    · rename_i n off he
      rw [he] at hx
      refine ansN_value (u := ρr x) ?_ hR hx h
      simp only [VR] at hx
      obtain ⟨e, _, hx⟩ := hx
      simp only [execOp, hx]
      rfl
    · rename_i g b c he
      rw [he] at hx
      refine ansN_value (u := ρr x) ?_ hR hx h
      simp only [VR] at hx
      obtain ⟨g', b', c', hx, hg, _⟩ := hx
      obtain rfl : g' = .func g := hg
      simp only [execOp, hx]
      rfl
    · rename_i t y he
      rw [he] at hx
      refine ansN_value (u := ρr x) ?_ hR hx h
      simp only [VR] at hx
      obtain ⟨b', hx, _⟩ := hx
      simp only [execOp, hx]
      rfl
    · exact aPureT_sound h rfl hρ hR
  case makeInterface t x =>
    split at h
    · exact h.elim
    · rename_i d hne hd
      refine ansN_of_pair ⟨.iface t (ρr x), _, ?_, h, ?_⟩ hR
      · simp only [Instr.makeInterface, Sem.run_bind, run_underlying hd, Result.andThen_ok]
        cases d <;> first | rfl | exact (hne _ rfl).elim
      · simp only [VR]; exact ⟨_, rfl, hρ x (by simp [Op.operands])⟩
    · exact h.elim
  case makeFunc fn b c =>
    obtain ⟨hp, h⟩ := T.sat_guard h
    refine ansN_of_pair ⟨.func fn (b.map ρr) (c.map ρr), _, rfl, h, ?_⟩ hR
    simp only [VR]
    refine ⟨_, _, _, rfl, FR.of hp, ?_, ?_⟩
    · rw [Array.toList_map]; exact VRs.map _ fun x hx => hρ x (by simp only [Op.operands, Array.mem_append]; exact .inl (by simpa using hx))
    · rw [Array.toList_map]; exact VRs.map _ fun x hx => hρ x (by simp only [Op.operands, Array.mem_append]; exact .inr (by simpa using hx))
  case makeSlice t l c => exact ansN_of_ans (aMakeSlice_sound h (hρ l (by simp [Op.operands])) (hρ c (by simp [Op.operands])) hR)
  case slice t x lo hi mx =>
    have hx := hρ x (by simp [Op.operands])
    split at h
    · rename_i n off len cap he
      rw [he] at hx
      refine ansN_of_pair (aSlice_sound (pairM_sat h) hx ?_ ?_ ?_ ?_ ?_ ?_ w) hR
      · intro y hy
        simp only [Option.map_eq_some_iff] at hy
        obtain ⟨z, rfl, rfl⟩ := hy
        exact ⟨ρr z, rfl, hρ z (by simp [Op.operands])⟩
      · intro hy; cases lo <;> simp_all
      · intro y hy
        simp only [Option.map_eq_some_iff] at hy
        obtain ⟨z, rfl, rfl⟩ := hy
        exact ⟨ρr z, rfl, hρ z (by simp [Op.operands])⟩
      · intro hy; cases hi <;> simp_all
      · intro y hy
        simp only [Option.map_eq_some_iff] at hy
        obtain ⟨z, rfl, rfl⟩ := hy
        exact ⟨ρr z, rfl, hρ z (by simp [Op.operands])⟩
      · intro hy; cases mx <;> simp_all
    · exact aPureT_sound h rfl hρ hR
  case fieldAddr s x f => exact ansN_of_pair (aFieldAddr_sound (pairM_sat h) (hρ x (by simp [Op.operands])) w) hR
  case field t x f => exact ansN_of_pair (aField_sound (pairM_sat h) (hρ x (by simp [Op.operands])) w) hR
  case indexAddr t x i => exact ansN_of_pair (aIndexAddr_sound (pairM_sat h) (hρ x (by simp [Op.operands])) (hρ i (by simp [Op.operands])) w) hR
  case extract x k => exact ansN_of_pair (aExtract_sound (pairM_sat h) (hρ x (by simp [Op.operands])) w) hR
  case binOp op t x y yt =>
    split at h
    · rename_i k a k' b _ hx hy
      split at h
      · rename_i hk
        subst hk
        have hxr := hρ x (by simp [Op.operands])
        have hyr := hρ y (by simp [Op.operands])
        rw [hx] at hxr
        rw [hy] at hyr
        simp only [VR] at hxr hyr
        obtain ⟨u, v, h1, h2, h3⟩ := aBin_sound (P := C.P) (E := E) (t := t) (pairM_sat h) w
        refine ansN_value (u := u) ?_ hR h3 h2
        simp only [execOp, hxr, hyr, Sem.run_bind, run_eqGuard_int, Result.andThen_ok, h1, Sem.run_pure]
      · exact h.elim
    · rename_i n off len cap _ hx hy
      have hxr := hρ x (by simp [Op.operands])
      have hyr := hρ y (by simp [Op.operands])
      rw [hx] at hxr
      rw [hy] at hyr
      simp only [VR] at hxr hyr
      obtain ⟨e, c, he, hxr, _⟩ := hxr
      split at h
      · rename_i el hu _
        refine ansN_value (u := .bool false) ?_ hR (by simp [VR]) h
        have hq2 := Lib.run_eql_slice_nil (P := C.P) w t el (some ⟨e.b, e.off + off, none⟩) len c 0 0 hu
        simp [execOp, hxr, hyr, eqGuard, hq2]
      · rename_i el hu _
        have hq := run_neq_slice_nil_any (P := C.P) w t el (some ⟨e.b, e.off + off, none⟩) len c 0 0 hu
        refine ansN_value (u := .bool true) ?_ hR (by simp [VR]) h
        simp [execOp, hxr, hyr, eqGuard, hq]
      · exact h.elim
    · exact aPureT_sound h rfl hρ hR
  case unOp op t x =>
    split at h
    · rename_i b hx
      have hxr := hρ x (by simp [Op.operands])
      rw [hx] at hxr
      simp only [VR] at hxr
      refine ansN_value (u := .bool (!b)) ?_ hR (by simp [VR, bNot]) h
      simp [execOp, hxr, Op.unary]
    · rename_i k n hx
      have hxr := hρ x (by simp [Op.operands])
      rw [hx] at hxr
      simp only [VR] at hxr
      refine ansN_value (u := .int k (iSub k 0 n)) ?_ hR (by simp [VR]) h
      simp [execOp, hxr, Op.unary, Op.intArith, iSub]
    · exact aPureT_sound h rfl hρ hR
  case makeMap t r =>
    split at h
    · exact ansN_of_ans (s := Instr.makeMap t none) ⟨.map (some w.heap.size), _, rfl, E, .bot, M, h, by simp [VR], Step.other hR _⟩
    · exact h.elim
  case call c => exact aCall_sound hC hcall rfl h hρ hR
  all_goals first
    | exact aPureT_sound h rfl hρ hR
    | (simp only [noSel] at h; exact aPureT_sound h rfl hρ hR)
    | (simp only [noSel, Bool.false_eq_true, if_false] at h; exact h.elim)
    | (rw [if_pos rfl] at h; exact aPureT_sound h rfl hρ hR)
end
end Go.Proofs.YtnpggmdpokcakaaGreatDoor.AM
