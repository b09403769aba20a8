/- A small machine, fourth part: this program; what is known of its world; Frost at the climate of the laws. -/
import Derived.Test.YtnpggmdpokcakaaGreatDoorM2
import Derived.Test.YtnpggmdpokcakaaGreatDoorProg
import Derived.Test.YtnpggmdpokcakaaGreatDoorSh
import Derived.Test.YtnpggmdpokcakaaGreatDoorA5
set_option linter.unusedSectionVars false
set_option linter.unusedVariables false
set_option linter.unusedSimpArgs false
set_option linter.unnecessarySimpa false
namespace Go.Proofs.YtnpggmdpokcakaaGreatDoor.AM
open Go.RowKit Go.Proofs
def noBody : List Nat := [0, 1, 264, 277, 284, 288, 289, 290, 291, 292, 293, 294, 295, 296, 297, 298, 299, 300, 301, 302, 305, 306, 307, 308, 309, 310, 311, 312]
def entT (f : FuncId) : Bool := decide (f < 314) && !(noBody.contains f)
def mthT (t : TypeId) (name : String) : Option FuncId := if t = 267 then (if name == "snowline/diffs.lines" then some 303 else if name == "snowline/diffs.nodes" then some 304 else none) else none
noncomputable def cfg : Cfg := ⟨Tryz.prog, entT, mthT⟩
theorem ent_all : ((List.range 314).all fun f => noBody.contains f || enters Tryz.prog f) = true := by kernel_rfl
theorem mth_lines (v : Value) (args : Array Value) (w : World) : (callMethod (.iface 267 v) "snowline/diffs.lines" args).run Tryz.prog w = .ok (.enter 303 (#[v] ++ args)) w := by kernel_rfl
theorem mth_nodes (v : Value) (args : Array Value) (w : World) : (callMethod (.iface 267 v) "snowline/diffs.nodes" args).run Tryz.prog w = .ok (.enter 304 (#[v] ++ args)) w := by kernel_rfl
theorem entT_ok (f : FuncId) (h : entT f = true) (args : Array Value) (w : World) : (callFunc f args).run Tryz.prog w = .ok (.enter f args) w := by
  simp only [entT, Bool.and_eq_true, decide_eq_true_eq, Bool.not_eq_true'] at h
  have := List.all_eq_true.1 ent_all f (List.mem_range.2 h.1)
  rw [h.2, Bool.false_or] at this
  exact enters_run this args w
theorem mthT_ok (t : TypeId) (name : String) (f : FuncId) (h : mthT t name = some f) : (t = 267 ∧ name = "snowline/diffs.lines" ∧ f = 303) ∨ (t = 267 ∧ name = "snowline/diffs.nodes" ∧ f = 304) := by
  unfold mthT at h
  split at h
  · rename_i ht
    split at h
    · rename_i hn
      injection h with h
      exact .inl ⟨ht, by simpa using hn, h.symm⟩
    · split at h
      · rename_i hn
        injection h with h
        exact .inr ⟨ht, by simpa using hn, h.symm⟩
      · cases h
  · cases h
theorem mthT_run (t : TypeId) (name : String) (f : FuncId) (h : mthT t name = some f) (v : Value) (args : Array Value) (w : World) : (callMethod (.iface t v) name args).run Tryz.prog w = .ok (.enter f (#[v] ++ args)) w := by
  rcases mthT_ok t name f h with ⟨rfl, rfl, rfl⟩ | ⟨rfl, rfl, rfl⟩
  · exact mth_lines v args w
  · exact mth_nodes v args w
theorem cfg_ok : cfg.Ok := ⟨entT_ok, mthT_run⟩
theorem cfg_mixed : cfg.P.follows .mixedOrders = true := by kernel_rfl
end Go.Proofs.YtnpggmdpokcakaaGreatDoor.AM
namespace Go.Proofs.YtnpggmdpokcakaaGreatDoor.AM
open Go.RowKit Go.Proofs
def tabName : String := "internal/strconv.uint64pow10"
def tabW (w : World) : Prop := Lib.TabIs Tryz.prog w tabName .u64 Lib.pow10Tab
instance seatBase : Base where
  K := fun b => b = 0
  I := fun w => tabW w ∧ 0 < w.heap.size
  pres := fun w w' h hi => by
    have h0 := h 0 rfl
    refine ⟨?_, ?_⟩
    · have h1 := hi.1
      unfold tabW Lib.TabIs World.var? at h1 ⊢
      rw [show Tryz.prog.globalNamed tabName = some 0 by kernel_rfl] at h1 ⊢
      simpa only [Option.bind_some, h0] using h1
    · have h2 : w'.heap[0]? = some w.heap[0] := by rw [h0, Array.getElem?_eq_getElem hi.2]
      exact (Array.getElem?_eq_some_iff.1 h2).1
def itoaF (args : List AV) (M : Mem) : T (AV × Mem) :=
  match args with
  | [.v (.int .i64 n)] => T.guard (decide (-9223372036854775808 ≤ n)) (T.guard (decide (n ≤ 9223372036854775807)) (.ret (.v (.string ⟨(Lib.itoa n).toArray⟩), M)))
  | _ => .fail
def itoaO : Oracle := fun f => bif Nat.beq f 154 then some itoaF else none
theorem grow_below (w : World) (os : Array Obj) : Below w.heap.size w (Sort.grow w os) :=
  ⟨rfl, rfl, rfl, by simp [Sort.grow], fun k hk => by simp [Sort.grow, Array.getElem?_append_left hk]⟩
theorem itoaO_sound : SoundOracle Tryz.prog itoaO := by
  intro f g hg args M Q E w us h hv hR
  unfold itoaO at hg
  cases hf : Nat.beq f 154 with
  | false => rw [hf] at hg; cases hg
  | true =>
    rw [hf] at hg
    injection hg with hg
    have hf := Nat.eq_of_beq_eq_true hf
    subst hf
    subst hg
    unfold itoaF at h
    split at h
    · rename_i n
      obtain ⟨h0, h⟩ := T.sat_guard h
      obtain ⟨h1, h⟩ := T.sat_guard h
      simp only [VRs, VR] at hv
      obtain ⟨u, us', hu, rfl, rfl⟩ := hv
      have hus : us = #[.int .i64 n] := Array.ext' hu
      subst hus
      refine (Tryz.strconv_Itoa_laid n (of_decide_eq_true h0) (of_decide_eq_true h1) w hR.inv.1).mono ?_
      rintro e w' ⟨rfl, k, os, rfl⟩
      refine ⟨_, rfl, E, _, M, h, by simp only [VR], Step.of_below hR ?_⟩
      exact ⟨rfl, rfl, rfl, (grow_below (w.drewN k) os).size, (grow_below (w.drewN k) os).block⟩
    · exact h.elim
end Go.Proofs.YtnpggmdpokcakaaGreatDoor.AM
namespace Go.Proofs.YtnpggmdpokcakaaGreatDoor.AM
open Go.RowKit
variable [Base]
mutual
theorem AV.raw_VR {E : Env} : ∀ {a : AV} {x : Value}, a.raw = some x → VR E a x
  | .v _, x, h => by simp only [AV.raw, Option.some.injEq] at h; simp only [VR]; exact h.symm
  | .agg xs, x, h => by
    simp only [AV.raw, Option.map_eq_some_iff] at h
    obtain ⟨l, h1, rfl⟩ := h
    simp only [VR]
    exact ⟨_, rfl, AV.raws_VR h1⟩
  | .tup xs, x, h => by
    simp only [AV.raw, Option.map_eq_some_iff] at h
    obtain ⟨l, h1, rfl⟩ := h
    simp only [VR]
    exact ⟨_, rfl, AV.raws_VR h1⟩
  | .fn f b c, x, h => by
    cases hp : plain f with
    | false => simp [AV.raw, hp] at h
    | true =>
      simp only [AV.raw, hp, cond_true, Option.map_eq_some_iff, Option.bind_eq_some_iff] at h
      obtain ⟨l, h1, m, h2, rfl⟩ := h
      simp only [VR]
      exact ⟨f, _, _, rfl, FR.of hp, AV.raws_VR h1, AV.raws_VR h2⟩
  | .ifc t y, x, h => by
    simp only [AV.raw, Option.map_eq_some_iff] at h
    obtain ⟨l, h1, rfl⟩ := h
    simp only [VR]
    exact ⟨_, rfl, AV.raw_VR h1⟩
  | .bot, _, h => by simp [AV.raw] at h
  | .ptr _ _, _, h => by simp [AV.raw] at h
  | .sl _ _ _ _, _, h => by simp [AV.raw] at h
theorem AV.raws_VR {E : Env} : ∀ {xs : List AV} {l : List Value}, AV.raws xs = some l → VRs E xs l
  | [], l, h => by simp only [AV.raws, Option.some.injEq] at h; simp only [VRs]; exact h.symm
  | a :: xs, l, h => by
    simp only [AV.raws, Option.map_eq_some_iff, Option.bind_eq_some_iff] at h
    obtain ⟨x, h1, m, h2, rfl⟩ := h
    simp only [VRs]
    exact ⟨x, m, rfl, AV.raw_VR h1, AV.raws_VR h2⟩
end
noncomputable def fact (f0 : FuncId) (A0 : List AV) (R0 : AV) (O : Oracle) : Oracle := fun f =>
  bif Nat.beq f f0 then some (fun args M => bif AV.eqbs args A0 then .ret (R0, M) else match O f with
    | some g => g args M
    | none => .fail) else O f
theorem fact_sound {P : Program} {f0 : FuncId} {A0 : List AV} {R0 : AV} {O : Oracle} {us0 : List Value} {x : Value} (hA : AV.raws A0 = some us0) (hx : R0.raw = some x)
    (hcall : ∀ w : World, Base.I w → Calls P f0 us0.toArray w fun e w' => e = .returned x ∧ Below w.heap.size w w') (hO : SoundOracle P O) : SoundOracle P (fact f0 A0 R0 O) := by
  intro f g hg args M Q E w us h hv hR
  unfold fact at hg
  cases hf : Nat.beq f f0 with
  | false => rw [hf] at hg; exact hO f g hg args M Q E w us h hv hR
  | true =>
    rw [hf] at hg
    injection hg with hg
    have hf := Nat.eq_of_beq_eq_true hf
    subst hf
    subst hg
    cases hb : AV.eqbs args A0 with
    | true =>
      simp only [hb, cond_true] at h
      obtain rfl := AV.eqbs_ok hb
      have hus := AV.raws_eq hA hv
      have e : us = us0.toArray := Array.ext' (by rw [hus])
      subst e
      refine (hcall w hR.inv).mono ?_
      rintro e w' ⟨rfl, hb'⟩
      exact ⟨x, rfl, E, R0, M, h, AV.raw_VR hx, Step.of_below hR hb'⟩
    | false =>
      simp only [hb, cond_false] at h
      cases hO' : O f with
      | some g => rw [hO'] at h; exact hO f g hO' args M Q E w us h hv hR
      | none => rw [hO'] at h; exact h.elim
end Go.Proofs.YtnpggmdpokcakaaGreatDoor.AM
namespace Go.Proofs.YtnpggmdpokcakaaGreatDoor.AM
open Go.RowKit
/-- Which branches of a tree are looked at. -/
inductive Gd where
  | leaf
  | both (x y : Gd)
  | left (x : Gd)
  | right (y : Gd)
noncomputable def T.cut {α : Type} (g : Gd) : T α → T α :=
  Gd.rec (motive := fun _ => T α → T α) (fun t => t)
    (fun _ _ cx cy t => T.rec (motive := fun _ => T α) (fun a => .ret a) (fun b x y _ _ => .ite b (cx x) (cy y)) .fail t)
    (fun _ cx t => T.rec (motive := fun _ => T α) (fun a => .ret a) (fun b x _ _ _ => Bool.rec .fail (cx x) b) .fail t)
    (fun _ cy t => T.rec (motive := fun _ => T α) (fun a => .ret a) (fun b _ y _ _ => Bool.rec (cy y) .fail b) .fail t) g
theorem T.sat_of_cut {α : Type} {Q : α → Prop} : ∀ {g : Gd} {t : T α}, (T.cut g t).sat Q → t.sat Q
  | .leaf, t, h => h
  | .both g1 g2, .ret a, h => h
  | .both g1 g2, .ite b x y, h => ⟨fun e => T.sat_of_cut (g := g1) (h.1 e), fun e => T.sat_of_cut (g := g2) (h.2 e)⟩
  | .both g1 g2, .fail, h => h
  | .left g, .ret a, h => h
  | .left g, .ite b x y, h => by
    cases b with
    | true => exact ⟨fun _ => T.sat_of_cut (g := g) h, fun e => by cases e⟩
    | false => exact (show False from h).elim
  | .left g, .fail, h => h
  | .right g, .ret a, h => h
  | .right g, .ite b x y, h => by
    cases b with
    | false => exact ⟨fun e => (by cases e), fun _ => T.sat_of_cut (g := g) h⟩
    | true => exact (show False from h).elim
  | .right g, .fail, h => h
theorem T.sat_cut {α : Type} {Q : α → Prop} {g : Gd} {t t' : T α} (e : T.cut g t = t') (h : t'.sat Q) : t.sat Q := T.sat_of_cut (g := g) (e ▸ h)
/-- What lay there when the call began. -/
def Kept (w0 w : World) : Prop := ∀ b, b < w0.heap.size → w.heap[b]? = w0.heap[b]?
theorem Kept.size {w0 w : World} (h : Kept w0 w) : w0.heap.size ≤ w.heap.size := by
  rcases Nat.eq_zero_or_pos w0.heap.size with h0 | h0
  · omega
  · have h1 := h (w0.heap.size - 1) (by omega)
    rw [Array.getElem?_eq_getElem (show w0.heap.size - 1 < w0.heap.size by omega)] at h1
    have := (Array.getElem?_eq_some_iff.1 h1).1
    omega
theorem Kept.cell {w0 w : World} (h : Kept w0 w) {b o : Nat} (hb : b < w0.heap.size) : w.cell? ⟨b, o, none⟩ = w0.cell? ⟨b, o, none⟩ := by
  unfold World.cell?
  simp only [h b hb]
@[reducible] def baseOf (w0 : World) : Base where
  K := fun b => b < w0.heap.size
  I := fun w => Kept w0 w
  pres := fun w w' h hi b hb => (h b hb).trans (hi b hb)
variable [Base]
/-- A call with plain arguments. -/
theorem ev_calls {P : Program} {call : Call} (hcall : SoundCall P call) {f : FuncId} {args : List AV} {us : List Value} {Q : Value → Prop} (hr : AV.raws args = some us)
    (h : (call f args []).sat fun r => ∃ x, r.1.raw = some x ∧ Q x) (w : World) (hi : Base.I w) (hg : ∀ b, Base.K b → b < w.heap.size) :
    Calls P f us.toArray w fun e w' => ∃ x, e = .returned x ∧ Q x ∧ Below w.heap.size w w' := by
  refine (hcall f args [] _ _ w us.toArray h (by simpa using AV.raws_VR hr) (R.empty w hi hg)).mono ?_
  rintro e w' ⟨u, rfl, E', v, M', ⟨x, hx, hq⟩, hv, hs⟩
  obtain rfl := AV.raw_eq hx hv
  exact ⟨_, rfl, hq, hs.below fun n ab hn => by simp at hn⟩
/-- An oracle that reads its arguments and answers plainly. -/
noncomputable def ora (f0 : FuncId) (spec : List AV → T AV) (O : Oracle) : Oracle := fun f =>
  bif Nat.beq f f0 then some (fun args M => (spec args).bind fun v => .ret (v, M)) else O f
def OraOk (P : Program) (f0 : FuncId) (spec : List AV → T AV) : Prop :=
  ∀ (args : List AV) (Q : AV → Prop) (E : Env) (us : Array Value), (spec args).sat Q → VRs E args us.toList → ∀ w, Base.I w → Calls P f0 us w fun e w' => ∃ x v, e = .returned x ∧ Q v ∧ v.raw = some x ∧ Below w.heap.size w w'
theorem ora_sound {P : Program} {f0 : FuncId} {spec : List AV → T AV} {O : Oracle} (h : OraOk P f0 spec) (hO : SoundOracle P O) : SoundOracle P (ora f0 spec O) := by
  intro f g hg args M Q E w us hs hv hR
  unfold ora at hg
  cases hf : Nat.beq f f0 with
  | false => rw [hf] at hg; exact hO f g hg args M Q E w us hs hv hR
  | true =>
    rw [hf] at hg
    injection hg with hg
    have hf := Nat.eq_of_beq_eq_true hf
    subst hf
    subst hg
    rw [T.sat_bind] at hs
    refine (h args _ E us hs hv w hR.inv).mono ?_
    rintro e w' ⟨x, v, rfl, hq, hx, hb⟩
    exact ⟨x, rfl, E, v, M, hq, AV.raw_VR hx, Step.of_below hR hb⟩
/-! ### Reading arguments -/
def dI : AV → T Int
  | .v (.int .i64 n) => .ret n
  | _ => .fail
theorem dI_sat {E : Env} {a : AV} {u : Value} {Q : Int → Prop} (h : (dI a).sat Q) (hv : VR E a u) : ∃ n, u = .int .i64 n ∧ Q n := by
  unfold dI at h
  split at h
  · simp only [VR] at hv; exact ⟨_, hv, h⟩
  · exact h.elim
def dB : AV → T Bool
  | .v (.bool n) => .ret n
  | _ => .fail
theorem dB_sat {E : Env} {a : AV} {u : Value} {Q : Bool → Prop} (h : (dB a).sat Q) (hv : VR E a u) : ∃ n, u = .bool n ∧ Q n := by
  unfold dB at h
  split at h
  · simp only [VR] at hv; exact ⟨_, hv, h⟩
  · exact h.elim
/-- A row of numbers. -/
noncomputable def dIs (l : List AV) : T (List Int) := List.rec (motive := fun _ => T (List Int)) (.ret []) (fun a _ ih => (dI a).bind fun n => ih.bind fun ns => .ret (n :: ns)) l
theorem dIs_sat {E : Env} : ∀ {l : List AV} {us : List Value} {Q : List Int → Prop}, (dIs l).sat Q → VRs E l us → ∃ ns : List Int, us = ns.map (fun n => .int .i64 n) ∧ Q ns
  | [], us, Q, h, hv => by simp only [VRs] at hv; subst hv; exact ⟨[], rfl, h⟩
  | a :: l, us, Q, h, hv => by
    have h : ((dI a).bind fun n => (dIs l).bind fun ns => .ret (n :: ns)).sat Q := h
    rw [T.sat_bind] at h
    simp only [VRs] at hv
    obtain ⟨u, us', rfl, h1, h2⟩ := hv
    obtain ⟨n, rfl, h⟩ := dI_sat h h1
    rw [T.sat_bind] at h
    obtain ⟨ns, rfl, h⟩ := dIs_sat h h2
    exact ⟨n :: ns, rfl, h⟩
def dAgg : AV → T (List AV)
  | .agg xs => .ret xs
  | _ => .fail
theorem dAgg_sat {E : Env} {a : AV} {u : Value} {Q : List AV → Prop} (h : (dAgg a).sat Q) (hv : VR E a u) : ∃ xs cs, u = .agg cs ∧ VRs E xs cs.toList ∧ Q xs := by
  cases a <;> try exact h.elim
  rename_i xs
  simp only [VR] at hv
  obtain ⟨cs, rfl, hv⟩ := hv
  exact ⟨xs, cs, rfl, hv, h⟩
end Go.Proofs.YtnpggmdpokcakaaGreatDoor.AM
namespace Go.Proofs.YtnpggmdpokcakaaGreatDoor
open Go Go.Proofs.YtnpggmdpokcakaaGreatDoor.AM Go.Proofs
def iv (n : Int) : AV := .v (.int .i64 n)
def theCl : Sp.Cl := ⟨1000, 6, 50, 40, -200, 250, 400, 410⟩
def clA : AV := .agg [iv 1000, iv 6, iv 50, iv 40, iv (-200), iv 250, iv 400, iv 410]
def noLive : FuncId → Option (List Nat) := fun _ => none
def rangers : FuncId → Bool := fun f => f == 42 || f == 134 || f == 136
theorem frost_there : frost theCl 30 = some 1500 := by kernel_rfl
noncomputable def O0 : Oracle := fact 31 [clA, iv 30] (.tup [iv 1500, iv 0]) itoaO
theorem O0_sound : SoundOracle Tryz.prog O0 := by
  refine fact_sound (us0 := [vC theCl, .int .i64 30]) (x := .tuple #[.int .i64 1500, .int .i64 0]) rfl rfl (fun w _ => ?_) itoaO_sound
  refine (Frost_calls theCl 30 w).mono ?_
  rintro e w' ⟨rfl, hb⟩
  rw [if_pos (show Sp.okCl theCl by decide), if_pos (by decide)]
  exact ⟨by unfold frostV; rw [frost_there]; rfl, hb⟩
end Go.Proofs.YtnpggmdpokcakaaGreatDoor
