/- Words that the contracts of this seat use: how climates and weathers stand as values; what is read of a slice of records. -/
import Derived.Test.YtnpggmdpokcakaaGreatDoorProg
import Derived.Test.YtnpggmdpokcakaaGreatDoorSpThy
import Derived.WalkKit
import Derived.WalkSpells
import Derived.Deep.QuietTactic
import Derived.BigQuiet
import Derived.Deep.RegionHeld3
import Derived.Shelf.SlicesQ.Load
import Derived.Lib.Hide
set_option linter.unusedVariables false
set_option linter.unusedSimpArgs false
set_option linter.unnecessarySimpa false
namespace Go.Proofs.YtnpggmdpokcakaaGreatDoor
open Go.RowKit

abbrev vC (c : Sp.Cl) : Value := .agg #[.int .i64 c.base, .int .i64 c.lapse, .int .i64 c.swing, .int .i64 c.wet, .int .i64 c.cold, .int .i64 c.warm, .int .i64 c.flo, .int .i64 c.fhi]
abbrev cC (c : Sp.Cl) : Array Value := #[.int .i64 c.base, .int .i64 c.lapse, .int .i64 c.swing, .int .i64 c.wet, .int .i64 c.cold, .int .i64 c.warm, .int .i64 c.flo, .int .i64 c.fhi]
abbrev vW (x : Sp.W) : Value := .agg #[.int .i64 x.day, .int .i64 x.temp, .int .i64 x.rain]
def lW (x : Sp.W) : List Value := [.int .i64 x.day, .int .i64 x.temp, .int .i64 x.rain]
theorem ret_int {k : IntKind} {a b : Int} (h : a = b) : Ending.returned (.int k a) = .returned (.int k b) := by rw [h]
theorem ret_bool {a b : Bool} (h : a = b) : Ending.returned (.bool a) = .returned (.bool b) := by rw [h]

/-- What is read of a slice of records: each record's cells, one behind the other. -/
def Rd {α : Type} (enc : α → List Value) (sz : Nat) (w : World) (A : Option Addr) (l : List α) : Prop :=
  l.length ≤ 281474976710656 ∧ ∀ i (h : i < l.length), ∃ b off, A = some ⟨b, off, none⟩ ∧ b < w.heap.size ∧ ∀ j v, (enc l[i])[j]? = some v → w.cell? ⟨b, off + i * sz + j, none⟩ = some v
theorem Rd.below {α : Type} {enc : α → List Value} {sz : Nat} {w w1 : World} {A : Option Addr} {l : List α} (h : Rd enc sz w A l) (hb : Below w.heap.size w w1) : Rd enc sz w1 A l :=
  ⟨h.1, fun i hi => by
    obtain ⟨b, off, e, hlt, hc⟩ := h.2 i hi
    exact ⟨b, off, e, Nat.lt_of_lt_of_le hlt hb.size, fun j v hv => (hb.cell (p := ⟨b, off + i * sz + j, none⟩) hlt).trans (hc j v hv)⟩⟩
theorem bcell {W w1 : World} (hb : Below W.heap.size W w1) : (∀ b o, b < W.heap.size → w1.cell? ⟨b, o, none⟩ = W.cell? ⟨b, o, none⟩) ∧ (∀ b o, b < W.heap.size → w1.frozen? ⟨b, o, none⟩ = W.frozen? ⟨b, o, none⟩) :=
  ⟨fun b o h => hb.cell (p := ⟨b, o, none⟩) h, fun b o h => hb.frozen (p := ⟨b, o, none⟩) h⟩
theorem balloc {w w1 : World} (h : Below w.heap.size w w1) (o : Obj) : Below w.heap.size w (w1.alloc o) := h.alloc h.size o
theorem bdrew {w w1 : World} (h : Below w.heap.size w w1) : Below w.heap.size w w1.drew := h.drew
theorem bdrewN {w w1 : World} (h : Below w.heap.size w w1) (n : Nat) : Below w.heap.size w (w1.drewN n) := ⟨h.os, h.tape, h.output, h.size, h.block⟩
theorem bthen {w w1 w2 : World} (h : Below w.heap.size w w1) (k : Below w1.heap.size w1 w2) : Below w.heap.size w w2 :=
  h.trans ⟨k.os, k.tape, k.output, k.size, fun i hi => k.block i (Nat.lt_of_lt_of_le hi h.size)⟩
theorem quiet_same {P : Program} {f : FuncId} {args : Array Value} {w : World} {n : Nat} {v : Value}
    (h : Calls P f args (w.drewN n) fun e w' => e = .returned v ∧ w.drewN n = w') : Calls P f args (w.drewN n) fun e w'' => e = .returned v ∧ ∃ m, w'' = w.drewN m :=
  Calls.quiet_of_same (h.mono fun _ _ h => ⟨h.1, h.2.symm⟩)
/-- What a region that draws its order keeps: whatever lay in wr. -/
theorem keepS {wr W W' : World} (h : Below wr.heap.size wr W ∧ ∀ b o, b < wr.heap.size → W.cell? ⟨b, o, none⟩ = wr.cell? ⟨b, o, none⟩) (hb : Below W.heap.size W W') :
    Below wr.heap.size wr W' ∧ ∀ b o, b < wr.heap.size → W'.cell? ⟨b, o, none⟩ = wr.cell? ⟨b, o, none⟩ :=
  ⟨bthen h.1 hb, fun b o hlt => (hb.cell (p := ⟨b, o, none⟩) (Nat.lt_of_lt_of_le hlt h.1.size)).trans (h.2 b o hlt)⟩
theorem keepS0 (wr : World) : Below wr.heap.size wr wr ∧ ∀ b o, b < wr.heap.size → wr.cell? ⟨b, o, none⟩ = wr.cell? ⟨b, o, none⟩ := ⟨Below.refl _ _, fun _ _ _ => rfl⟩
theorem keepSd {wr W : World} (h : Below wr.heap.size wr W ∧ ∀ b o, b < wr.heap.size → W.cell? ⟨b, o, none⟩ = wr.cell? ⟨b, o, none⟩) :
    Below wr.heap.size wr W.drew ∧ ∀ b o, b < wr.heap.size → W.drew.cell? ⟨b, o, none⟩ = wr.cell? ⟨b, o, none⟩ := ⟨bdrew h.1, fun b o hlt => h.2 b o hlt⟩
theorem keepSa {wr W : World} (o' : Obj) (h : Below wr.heap.size wr W ∧ ∀ b o, b < wr.heap.size → W.cell? ⟨b, o, none⟩ = wr.cell? ⟨b, o, none⟩) :
    Below wr.heap.size wr (W.alloc o') ∧ ∀ b o, b < wr.heap.size → (W.alloc o').cell? ⟨b, o, none⟩ = wr.cell? ⟨b, o, none⟩ :=
  keepS h (balloc (Below.refl _ _) o')
/-- The cells of a box. -/
theorem box_cell {w : World} {g : Nat} {cs : Array Value} {t : TypeId} {fr : Nat × Nat} (h : w.heap[g]? = some (.cells cs t fr)) (i : Nat) : w.cell? ⟨g, i, none⟩ = cs[i]? := by
  unfold World.cell?
  simp [h]
theorem box_lt {w : World} {g : Nat} {o : Obj} (h : w.heap[g]? = some o) : g < w.heap.size := (Array.getElem?_eq_some_iff.1 h).1
theorem box_below {w w1 : World} {g : Nat} {o : Obj} (h : w.heap[g]? = some o) (hb : Below w.heap.size w w1) : w1.heap[g]? = some o := (hb.block g (box_lt h)).trans h
theorem box_new (w : World) (o : Obj) : (w.alloc o).heap[w.heap.size]? = some o := heap_alloc_new w o
theorem box_alloc {w : World} {g : Nat} {o : Obj} (o' : Obj) (h : w.heap[g]? = some o) : (w.alloc o').heap[g]? = some o := box_below h (balloc (Below.refl _ _) o')
theorem box_drew {w : World} {g : Nat} {o : Obj} (h : w.heap[g]? = some o) : w.drew.heap[g]? = some o := h
theorem box_drewN {w : World} {g : Nat} {o : Obj} (h : w.heap[g]? = some o) (n : Nat) : (w.drewN n).heap[g]? = some o := h
theorem box_far {w : World} {g : Nat} {o : Obj} {p : Addr} {v : Value} (hg : g ≠ p.block) (h : w.heap[g]? = some o) : (w.setCell p v).heap[g]? = some o := (Below.heap_setCell w p v g hg).trans h
theorem box_set {w : World} {g i : Nat} {cs : Array Value} {t : TypeId} {fr : Nat × Nat} {v : Value} (h : w.heap[g]? = some (.cells cs t fr)) : (w.setCell ⟨g, i, none⟩ v).heap[g]? = some (.cells (cs.setIfInBounds i v) t fr) := by
  simp [World.setCell, Array.getElem?_modify, h]
theorem box_frozen {w : World} {g : Nat} {cs : Array Value} {t : TypeId} (h : w.heap[g]? = some (.cells cs t (0, 0))) (i : Nat) : w.frozen? ⟨g, i, none⟩ = false := by simp [World.frozen?, h]
/-- Two numbers in a box. -/
theorem box2 {w : World} {g : Nat} {a b : Int} {t : TypeId} (h : w.heap[g]? = some (.cells #[.int .i64 a, .int .i64 b] t (0, 0))) : w.cell? ⟨g, 0, none⟩ = some (.int .i64 a) ∧ w.cell? ⟨g, 1, none⟩ = some (.int .i64 b) ∧ w.frozen? ⟨g, 0, none⟩ = false ∧ w.frozen? ⟨g, 1, none⟩ = false :=
  ⟨box_cell h 0, box_cell h 1, box_frozen h 0, box_frozen h 1⟩
theorem box_set2 {w : World} {g : Nat} {a b : Value} {a' b' : Value} {t : TypeId} (h : w.heap[g]? = some (.cells #[a, b] t (0, 0))) : ((w.setCell ⟨g, 0, none⟩ a').setCell ⟨g, 1, none⟩ b').heap[g]? = some (.cells #[a', b'] t (0, 0)) := by
  have h1 := box_set (i := 0) (v := a') h
  have h2 := box_set (i := 1) (v := b') h1
  simpa using h2
theorem bset {w w1 : World} (h : Below w.heap.size w w1) {p : Addr} (hp : w.heap.size ≤ p.block) (v : Value) : Below w.heap.size w (w1.setCell p v) := h.setCell hp v
theorem box_at {w : World} {g : Nat} (hg : g = w.heap.size) (o : Obj) : (w.alloc o).heap[g]? = some o := by subst hg; exact heap_alloc_new w o
/-- A climate in a box. -/
theorem boxC {w : World} {g : Nat} {c : Sp.Cl} (h : w.heap[g]? = some (.cells (cC c) 25 (0, 0))) : w.cell? ⟨g, 0, none⟩ = some (.int .i64 c.base) ∧ w.cell? ⟨g, 1, none⟩ = some (.int .i64 c.lapse) ∧ w.cell? ⟨g, 2, none⟩ = some (.int .i64 c.swing) ∧ w.cell? ⟨g, 3, none⟩ = some (.int .i64 c.wet) ∧
    w.cell? ⟨g, 4, none⟩ = some (.int .i64 c.cold) ∧ w.cell? ⟨g, 5, none⟩ = some (.int .i64 c.warm) ∧ w.cell? ⟨g, 6, none⟩ = some (.int .i64 c.flo) ∧ w.cell? ⟨g, 7, none⟩ = some (.int .i64 c.fhi) :=
  ⟨box_cell h 0, box_cell h 1, box_cell h 2, box_cell h 3, box_cell h 4, box_cell h 5, box_cell h 6, box_cell h 7⟩
/-- The worlds in which all that lay in wr lies as it lay. -/
def Ext (wr : World) : Type := { W : World // Below wr.heap.size wr W }
def Ext.w {wr : World} (x : Ext wr) : World := x.1
instance (wr : World) : Nonempty (Ext wr) := ⟨⟨wr, Below.refl _ _⟩⟩
theorem Ext.cells (wr : World) : ∀ (x : Ext wr) (b o : Nat), b < wr.heap.size → x.w.cell? ⟨b, o, none⟩ = wr.cell? ⟨b, o, none⟩ := fun x b o h => x.2.cell (p := ⟨b, o, none⟩) h
/-- A region that draws its order, whose operations read and whose calls make memory at the most: one walk in the order of the text. -/
theorem wp_region_ext {P : Program} {id : Nat} {Q : Exit → Act → World → Prop} {a : Act} {w : World} {l : List Oper} (hm : P.follows .mixedOrders = true) (hB : Region.lexB .any l.toArray = true)
    (h : wpQuiet P l.toArray (fun w' => ∃ x : Ext w, w' = x.w) (fun a' => ∀ w', (∃ x : Ext w, w' = x.w) → Q .normal a' w') l a) : (Code.region id l.toArray true).wp P Q a w :=
  wp_region_quiet (C := fun w' => ∃ x : Ext w, w' = x.w) hm hB ⟨⟨w.drew, bdrew (Below.refl _ _)⟩, rfl⟩ (by simpa using h)
theorem ext_call {P : Program} {f : FuncId} {args : Array Value} {wr : World} {x : Ext wr} {v : Value} (h : Calls P f args x.w fun e w' => e = .returned v ∧ Below x.w.heap.size x.w w') :
    Calls P f args x.w fun e w'' => e = .returned v ∧ ∃ y : Ext wr, w'' = y.w := h.mono fun _ _ ⟨he, hb⟩ => ⟨he, ⟨_, bthen x.2 hb⟩, rfl⟩
theorem ext_same {P : Program} {f : FuncId} {args : Array Value} {wr : World} {x : Ext wr} {v : Value} (h : Calls P f args x.w fun e w' => e = .returned v ∧ x.w = w') :
    Calls P f args x.w fun e w'' => e = .returned v ∧ ∃ y : Ext wr, w'' = y.w := h.mono fun _ _ ⟨he, hb⟩ => ⟨he, x, hb.symm⟩
end Go.Proofs.YtnpggmdpokcakaaGreatDoor
