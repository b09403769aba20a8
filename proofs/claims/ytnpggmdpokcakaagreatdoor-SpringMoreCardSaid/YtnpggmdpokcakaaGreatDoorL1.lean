/- The arguments of the laws, opened: climates, logs, springs. -/
import Derived.Test.YtnpggmdpokcakaaGreatDoorL0
import Derived.Test.YtnpggmdpokcakaaGreatDoorA0
import Derived.Deep.Slices
import Derived.Deep.Fields
import Derived.ChangeSame
namespace Go.Proofs.YtnpggmdpokcakaaGreatDoor
open Go.ChangeShapes Go.WideShapes Go.RowKit Go.Deep
set_option maxRecDepth 100000
variable {H : Type} {enc : TypeId × Value → H} {w : World} {base : Nat} {spare : Nat → Bool} {held : Bool}
theorem open_i {n : Nat} {v : Value} {y : DataW H × List MemPlace} (h : DataW.trod enc Tryz.prog w base spare held n 3 [v] = some y) : ∃ a : Int, v = .int .i64 a := by
  obtain ⟨a, h1, _, _⟩ := DataW.trod_int Tryz.underlying3 h
  exact ⟨a, by simpa using h1⟩
theorem cells25 : Tryz.prog.cellsOf 25 = 8 := by kernel_rfl
theorem cells23 : Tryz.prog.cellsOf 23 = 2 := by kernel_rfl
theorem cells3 : Tryz.prog.cellsOf 3 = 1 := by kernel_rfl
theorem cells36 : Tryz.prog.cellsOf 36 = 3 := by kernel_rfl
theorem cells26 : Tryz.prog.cellsOf 26 = 1 := by kernel_rfl
theorem cells28 : Tryz.prog.cellsOf 28 = 2 := by kernel_rfl
theorem open_climate {r : Reach} {b0 : Nat} {v : Value} {d : DataW H} {p : List MemPlace} (hv : Value.okWide Tryz.prog w r b0 25 v) (h : DataW.Trod enc Tryz.prog w base spare held 25 v d p) : ∃ c : Sp.Cl, v = vC c := by
  obtain ⟨cs, rfl, hsz⟩ := okWide_struct Tryz.underlying25 hv
  obtain ⟨l⟩ := cs
  match l, hsz.trans cells25 with
  | [v0, v1, v2, v3, v4, v5, v6, v7], _ =>
    obtain ⟨fuel, hf⟩ := h
    obtain ⟨xs, n, _, _, _, hlen, hg⟩ := DataW.trod_struct Tryz.underlying25 hf
    match xs, hlen with
    | [y0, y1, y2, y3, y4, y5, y6], _ =>
      obtain ⟨a0, rfl⟩ := open_i (n := n) (by simpa [Value.cells, cells3] using hg 0 _ rfl)
      obtain ⟨a1, rfl⟩ := open_i (n := n) (by simpa [Value.cells, cells3] using hg 1 _ rfl)
      obtain ⟨a2, rfl⟩ := open_i (n := n) (by simpa [Value.cells, cells3] using hg 2 _ rfl)
      obtain ⟨a3, rfl⟩ := open_i (n := n) (by simpa [Value.cells, cells3] using hg 3 _ rfl)
      obtain ⟨a4, rfl⟩ := open_i (n := n) (by simpa [Value.cells, cells3] using hg 4 _ rfl)
      obtain ⟨a5, rfl⟩ := open_i (n := n) (by simpa [Value.cells, cells3] using hg 5 _ rfl)
      have h6 := hg 6 _ rfl
      simp only [Value.cells, cells23, List.drop_succ_cons, List.drop_zero, List.take_succ_cons, List.take_zero, List.getElem?_cons_succ, List.getElem?_cons_zero] at h6
      obtain ⟨z0, z1, m, _, _, hz0, hz1⟩ := trod_struct2 Tryz.underlying23 h6
      obtain ⟨a6, rfl⟩ := open_i (n := m) (by simpa [cells3, cells23] using hz0)
      obtain ⟨a7, rfl⟩ := open_i (n := m) (by simpa [cells3, cells23] using hz1)
      exact ⟨⟨a0, a1, a2, a3, a4, a5, a6, a7⟩, rfl⟩
theorem cells?_at {w : World} {base : Nat} {a : Addr} {n : Nat} {cs : List Value} (h : w.cells? base a n = some cs) : cs.length = n ∧ ∀ j, j < n → w.cell? (a.add j) = cs[j]? := by
  obtain ⟨_, h2, h3⟩ := World.cells?_some h
  exact ⟨h2, h3⟩
theorem spot_none {w : World} {a : Addr} {v : Value} (h : w.cell? a = some v) : a.spot = none ∧ a.block < w.heap.size := by
  unfold World.cell? at h
  split at h
  · rename_i c e fr hc
    refine ⟨?_, (Array.getElem?_eq_some_iff.1 hc).1⟩
    cases hs : a.spot with
    | none => rfl
    | some q => rw [hs] at h; simp at h
  · cases h
theorem add_none (b off n : Nat) : Addr.add ⟨b, off, none⟩ n = ⟨b, off + n, none⟩ := by
  unfold Addr.add
  split
  · rename_i h; subst h; rfl
  · rfl
/-- A log. -/
theorem open_log {fuel : Nat} {cs : List Value} {x : DataW H × List MemPlace} (h : DataW.trod enc Tryz.prog w base (fun _ => true) held fuel 26 cs = some x) (hwt : ∀ b ∈ x.1.weights Tryz.prog 26, b ≤ reachBytes) :
    ∃ (A : Option Addr) (l : List Sp.W) (cap : Nat), cs = [.slice A l.length cap] ∧ Rd lW 3 w A l := by
  rcases open_slice Tryz.underlying26 h with ⟨rfl, _⟩ | ⟨a, len, cap, m, n, D, Pl, rfl, _, hlc, _, hm, rfl, hi⟩
  · exact ⟨none, [], 0, rfl, by simp, fun i hi => by simp at hi⟩
  · have hel : ∀ i, i < len → ∃ x : Sp.W, (∀ j v, (lW x)[j]? = some v → w.cell? ((a.add (i * 3)).add j) = some v) := by
      intro i hil
      obtain ⟨cs', hc, ht⟩ := hi i (by simp at hm; omega)
      rw [cells36] at hc
      obtain ⟨hcl, hat⟩ := cells?_at hc
      obtain ⟨xs, n', _, _, _, hxl, hg⟩ := DataW.trod_struct Tryz.underlying36 ht
      match cs', hcl with
      | [v0, v1, v2], _ =>
        match xs, hxl with
        | [y0, y1, y2], _ =>
          obtain ⟨a0, rfl⟩ := open_i (n := n') (by simpa [cells3] using hg 0 _ rfl)
          obtain ⟨a1, rfl⟩ := open_i (n := n') (by simpa [cells3] using hg 1 _ rfl)
          obtain ⟨a2, rfl⟩ := open_i (n := n') (by simpa [cells3] using hg 2 _ rfl)
          refine ⟨⟨a0, a1, a2⟩, fun j v hj => ?_⟩
          have hj3 : j < 3 := by have := (List.getElem?_eq_some_iff.1 hj).1; simpa [lW] using this
          rw [hat j hj3]
          exact hj
    have hch : ∃ f : Nat → Sp.W, ∀ i, i < len → ∀ j v, (lW (f i))[j]? = some v → w.cell? ((a.add (i * 3)).add j) = some v := by
      refine ⟨fun i => if hil : i < len then (hel i hil).choose else default, fun i hil => ?_⟩
      simp only [dif_pos hil]
      exact (hel i hil).choose_spec
    obtain ⟨f, hf⟩ := hch
    have hb : len ≤ 281474976710656 := by
      have h1 := hwt _ (by simp only [DataW.weights, Tryz.underlying26]; exact List.mem_cons_self)
      rw [show Tryz.prog.bytesOf 36 = 24 by kernel_rfl] at h1
      simp only [List.length_map, List.length_range] at h1
      unfold reachBytes at h1
      omega
    refine ⟨some a, (List.range len).map f, cap, by simp, by simpa using hb, fun i hil => ?_⟩
    simp only [List.length_map, List.length_range] at hil
    have h0 := hf 0 (by omega) 0 _ (show (lW (f 0))[0]? = some _ from rfl)
    have h1 : (a.add (0 * 3)).add 0 = a := by simp [Addr.add]
    rw [h1] at h0
    obtain ⟨hs, hlt⟩ := spot_none h0
    obtain ⟨b, off, spot⟩ := a
    simp only at hs hlt
    subst hs
    refine ⟨b, off, rfl, hlt, fun j v hv => ?_⟩
    have := hf i hil j v (by simpa using hv)
    rwa [add_none, add_none] at this
/-- A spring. -/
theorem open_spring {r : Reach} {b0 : Nat} {v : Value} {d : DataW H} {p : List MemPlace} (hv : Value.okWide Tryz.prog w r b0 28 v) (h : DataW.Trod enc Tryz.prog w base (fun _ => true) held 28 v d p)
    (hwt : ∀ b ∈ d.weights Tryz.prog 28, b ≤ reachBytes) : ∃ (no : Int) (A : Option Addr) (l : List Sp.W) (cap : Nat), v = .agg #[.int .i64 no, .slice A l.length cap] ∧ Rd lW 3 w A l := by
  obtain ⟨cs, rfl, hsz⟩ := okWide_struct Tryz.underlying28 hv
  obtain ⟨l⟩ := cs
  match l, hsz.trans cells28 with
  | [v0, v1], _ =>
    obtain ⟨fuel, hf⟩ := h
    obtain ⟨z0, z1, m, hd, _, hz0, hz1⟩ := trod_struct2 Tryz.underlying28 hf
    obtain ⟨no, rfl⟩ := open_i (n := m) (by simpa [Value.cells, cells3] using hz0)
    have h1 : DataW.trod enc Tryz.prog w base (fun _ => true) held m 26 [v1] = some z1 := by simpa [Value.cells, cells26] using hz1
    obtain ⟨A, l, cap, hc, hr⟩ := open_log h1 (fun b hb => hwt b (by
      have hd1 : d = .agg [z0.1, z1.1] := congrArg Prod.fst hd
      rw [hd1]
      simp only [DataW.weights, Tryz.underlying28, DataW.weightsEach]
      exact List.mem_append_right _ (List.mem_append_left _ hb)))
    have hc : v1 = .slice A l.length cap := by simpa using hc
    exact ⟨no, A, l, cap, by rw [hc], hr⟩
theorem open_logT {v : Value} {d : DataW H} {p : List MemPlace} (hv : ∃ a len cap, v = .slice a len cap) (h : DataW.Trod enc Tryz.prog w base (fun _ => true) held 26 v d p)
    (hwt : ∀ b ∈ d.weights Tryz.prog 26, b ≤ reachBytes) : ∃ (A : Option Addr) (l : List Sp.W) (cap : Nat), v = .slice A l.length cap ∧ Rd lW 3 w A l := by
  obtain ⟨a, len, cap, rfl⟩ := hv
  obtain ⟨fuel, hf⟩ := h
  obtain ⟨A, l, cap', hc, hr⟩ := open_log (show DataW.trod enc Tryz.prog w base (fun _ => true) held fuel 26 [.slice a len cap] = some (d, p) from hf) hwt
  exact ⟨A, l, cap', by simpa using hc, hr⟩
end Go.Proofs.YtnpggmdpokcakaaGreatDoor
