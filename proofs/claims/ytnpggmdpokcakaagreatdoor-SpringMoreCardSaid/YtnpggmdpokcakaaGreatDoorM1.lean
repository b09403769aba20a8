/- A small machine, second part: regions, in any order; names given anew. -/
import Derived.Test.YtnpggmdpokcakaaGreatDoorM0
set_option linter.unusedSectionVars false
set_option linter.unusedVariables false
set_option linter.unusedSimpArgs false
set_option linter.unnecessarySimpa false
namespace Go.Proofs.YtnpggmdpokcakaaGreatDoor.AM
open Go.RowKit
variable [Base]

/-! ### Temporaries -/
inductive Tr where
  | leaf
  | node (v : AV) (l r : Tr)
def Tr.get : Tr → Nat → AV
  | .leaf, _ => .bot
  | .node v l r, n => bif Nat.beq n 0 then v else bif Nat.beq (n % 2) 1 then l.get (n / 2) else r.get (n / 2 - 1)
def Tr.put : Tr → Nat → AV → Tr
  | .leaf, _, _ => .leaf
  | .node x l r, n, v => bif Nat.beq n 0 then .node v l r else bif Nat.beq (n % 2) 1 then .node x (l.put (n / 2) v) r else .node x l (r.put (n / 2 - 1) v)
def Tr.full (x : AV) : Nat → Tr
  | 0 => .leaf
  | k + 1 => .node x (Tr.full x k) (Tr.full x k)
theorem Tr.get_full (x : AV) : ∀ (k n : Nat), (Tr.full x k).get n = x ∨ (Tr.full x k).get n = .bot
  | 0, n => .inr rfl
  | k + 1, n => by
    simp only [Tr.full, Tr.get]
    cases Nat.beq n 0
    · cases Nat.beq (n % 2) 1
      · exact Tr.get_full x k _
      · exact Tr.get_full x k _
    · exact .inl rfl
theorem Tr.get_put : ∀ (t : Tr) (n m : Nat) (v : AV), (t.put n v).get m = (if m = n then (t.put n v).get n else t.get m) ∧ ((t.put n v).get n = v ∨ (t.put n v).get n = .bot)
  | .leaf, n, m, v => by simp [Tr.put, Tr.get]
  | .node x l r, n, m, v => by
    simp only [Tr.put]
    cases hn : Nat.beq n 0 with
    | true =>
      have hn0 : n = 0 := Nat.eq_of_beq_eq_true hn
      subst hn0
      simp only [cond_true, Tr.get, hn]
      refine ⟨?_, .inl trivial⟩
      cases hm : Nat.beq m 0 with
      | true => simp [Nat.eq_of_beq_eq_true hm]
      | false =>
        have : m ≠ 0 := fun e => by subst e; cases hm
        simp [this]
    | false =>
      have hn0 : n ≠ 0 := fun e => by subst e; cases hn
      cases hp : Nat.beq (n % 2) 1 with
      | true =>
        have hp1 : n % 2 = 1 := Nat.eq_of_beq_eq_true hp
        obtain ⟨_, h2⟩ := Tr.get_put l (n / 2) (n / 2) v
        simp only [cond_false, cond_true, Tr.get, hn, hp]
        refine ⟨?_, h2⟩
        cases hm : Nat.beq m 0 with
        | true =>
          have : m = 0 := Nat.eq_of_beq_eq_true hm
          subst this
          simp [Ne.symm hn0]
        | false =>
          have hm0 : m ≠ 0 := fun e => by subst e; cases hm
          cases hq : Nat.beq (m % 2) 1 with
          | true =>
            have hq1 : m % 2 = 1 := Nat.eq_of_beq_eq_true hq
            obtain ⟨h1, _⟩ := Tr.get_put l (n / 2) (m / 2) v
            simp only [cond_false, cond_true]
            rw [h1]
            by_cases hmn : m = n
            · subst hmn; simp
            · rw [if_neg hmn, if_neg (by omega)]
          | false =>
            have hq1 : m % 2 ≠ 1 := fun e => by rw [e] at hq; cases hq
            have hmn : m ≠ n := fun e => by subst e; exact hq1 hp1
            simp [hmn]
      | false =>
        have hp1 : n % 2 ≠ 1 := fun e => by rw [e] at hp; cases hp
        obtain ⟨_, h2⟩ := Tr.get_put r (n / 2 - 1) (n / 2 - 1) v
        simp only [cond_false, Tr.get, hn, hp]
        refine ⟨?_, h2⟩
        cases hm : Nat.beq m 0 with
        | true =>
          have : m = 0 := Nat.eq_of_beq_eq_true hm
          subst this
          simp [Ne.symm hn0]
        | false =>
          have hm0 : m ≠ 0 := fun e => by subst e; cases hm
          cases hq : Nat.beq (m % 2) 1 with
          | true =>
            have hq1 : m % 2 = 1 := Nat.eq_of_beq_eq_true hq
            have hmn : m ≠ n := fun e => by subst e; exact hp1 hq1
            simp [hmn]
          | false =>
            have hq1 : m % 2 ≠ 1 := fun e => by rw [e] at hq; cases hq
            obtain ⟨h1, _⟩ := Tr.get_put r (n / 2 - 1) (m / 2 - 1) v
            simp only [cond_false]
            rw [h1]
            by_cases hmn : m = n
            · subst hmn; simp
            · rw [if_neg hmn, if_neg (by omega)]
/-- The same by the recursor: cheap for the kernel. -/
noncomputable def Tr.getR (t : Tr) : Nat → AV := Tr.rec (motive := fun _ => Nat → AV) (fun _ => .bot) (fun v _ _ l r n => Bool.rec (Bool.rec (r (Nat.sub (Nat.div n 2) 1)) (l (Nat.div n 2)) (Nat.beq (Nat.mod n 2) 1)) v (Nat.beq n 0)) t
noncomputable def Tr.putR (t : Tr) : Nat → AV → Tr := Tr.rec (motive := fun _ => Nat → AV → Tr) (fun _ _ => .leaf) (fun x l0 r0 l r n v => Bool.rec (Bool.rec (.node x l0 (r (Nat.sub (Nat.div n 2) 1) v)) (.node x (l (Nat.div n 2) v) r0) (Nat.beq (Nat.mod n 2) 1)) (.node v l0 r0) (Nat.beq n 0)) t
theorem Tr.getR_eq : ∀ (t : Tr) (n : Nat), t.getR n = t.get n
  | .leaf, _ => rfl
  | .node v l r, n => by
    show @Bool.rec (fun _ => AV) (@Bool.rec (fun _ => AV) (r.getR (n / 2 - 1)) (l.getR (n / 2)) (Nat.beq (n % 2) 1)) v (Nat.beq n 0) = _
    rw [Tr.getR_eq l, Tr.getR_eq r]
    show _ = (bif Nat.beq n 0 then v else bif Nat.beq (n % 2) 1 then l.get (n / 2) else r.get (n / 2 - 1))
    cases Nat.beq n 0 <;> cases Nat.beq (n % 2) 1 <;> rfl
theorem Tr.putR_eq : ∀ (t : Tr) (n : Nat) (v : AV), t.putR n v = t.put n v
  | .leaf, _, _ => rfl
  | .node x l r, n, v => by
    show @Bool.rec (fun _ => Tr) (@Bool.rec (fun _ => Tr) (.node x l (r.putR (n / 2 - 1) v)) (.node x (l.putR (n / 2) v) r) (Nat.beq (n % 2) 1)) (.node v l r) (Nat.beq n 0) = _
    rw [Tr.putR_eq l, Tr.putR_eq r]
    show _ = (bif Nat.beq n 0 then Tr.node v l r else bif Nat.beq (n % 2) 1 then .node x (l.put (n / 2) v) r else .node x l (r.put (n / 2 - 1) v))
    cases Nat.beq n 0 <;> cases Nat.beq (n % 2) 1 <;> rfl
/-- So many temporaries. -/
structure Tm where
  n : Nat
  t : Tr
noncomputable def Tm.get (t : Tm) (i : Nat) : AV := t.t.getR i
noncomputable def Tm.put (t : Tm) (i : Nat) (v : AV) : Tm := bif Nat.blt i t.n then ⟨t.n, t.t.putR i v⟩ else t
def Tm.full (x : AV) (n : Nat) : Tm := ⟨n, Tr.full x (Nat.log2 n + 1)⟩
theorem Tm.put_n (t : Tm) (i : Nat) (v : AV) : (t.put i v).n = t.n := by unfold Tm.put; cases Nat.blt i t.n <;> rfl
theorem Tm.get_ne (t : Tm) {i j : Nat} (v : AV) (h : j ≠ i) : (t.put i v).get j = t.get j := by
  unfold Tm.put Tm.get
  cases Nat.blt i t.n
  · rfl
  · simp only [cond_true, Tr.getR_eq, Tr.putR_eq]
    rw [(Tr.get_put t.t i j v).1, if_neg h]
theorem Tm.get_self (t : Tm) {i : Nat} (v : AV) (h : i < t.n) : (t.put i v).get i = v ∨ (t.put i v).get i = .bot := by
  unfold Tm.put Tm.get
  have : Nat.blt i t.n = true := by simpa [Nat.blt_eq] using h
  rw [this]
  simp only [cond_true, Tr.getR_eq, Tr.putR_eq]
  exact (Tr.get_put t.t i i v).2
theorem Tm.get_out (t : Tm) {i : Nat} (v : AV) (h : ¬ i < t.n) : t.put i v = t := by
  unfold Tm.put
  have : Nat.blt i t.n = false := by
    cases hb : Nat.blt i t.n with
    | false => rfl
    | true => exact (h (by simpa [Nat.blt_eq] using hb)).elim
  rw [this]
  rfl
/-- Temporaries of ours and of the model's. -/
structure TR (E : Env) (t : Tm) (us : Array Value) : Prop where
  n : us.size = t.n
  get : ∀ i, VR E (t.get i) (us.getD i undef)
theorem TR.mono {E E' : Env} {t : Tm} {us : Array Value} (h : TR E t us) (hE : E.le E') : TR E' t us := ⟨h.n, fun i => (h.get i).mono hE⟩
theorem TR.put {E : Env} {t : Tm} {us : Array Value} (h : TR E t us) (i : Nat) {v : AV} {u : Value} (hv : VR E v u) : TR E (t.put i v) (us.setIfInBounds i u) := by
  refine ⟨by rw [Tm.put_n, Array.size_setIfInBounds]; exact h.n, fun j => ?_⟩
  by_cases hi : i < t.n
  · by_cases hj : j = i
    · subst hj
      have e2 : (us.setIfInBounds j u).getD j undef = u := by simp [Array.getD_eq_getD_getElem?, h.n, hi]
      rw [e2]
      rcases t.get_self v hi with h1 | h1 <;> rw [h1]
      · exact hv
      · simp [VR]
    · rw [t.get_ne v hj]
      have e2 : (us.setIfInBounds i u).getD j undef = us.getD j undef := by simp [Array.getD_eq_getD_getElem?, Array.getElem?_setIfInBounds_ne (Ne.symm hj)]
      rw [e2]
      exact h.get j
  · rw [t.get_out v hi]
    have e2 : us.setIfInBounds i u = us := by
      apply Array.ext_getElem?
      intro k
      by_cases hk : i = k
      · subst hk
        rw [Array.getElem?_eq_none (by simp [h.n]; omega), Array.getElem?_eq_none (by rw [h.n]; omega)]
      · rw [Array.getElem?_setIfInBounds_ne hk]
    rw [e2]
    exact h.get j
theorem TR.full {E : Env} (n : Nat) (us : Array Value) (hn : us.size = n) (hu : ∀ i, us.getD i undef = undef) : TR E (Tm.full (.v undef) n) us := by
  refine ⟨hn, fun i => ?_⟩
  rw [hu i]
  show VR E ((Tr.full (.v undef) (Nat.log2 n + 1)).getR i) undef
  rw [Tr.getR_eq]
  rcases Tr.get_full (.v undef) (Nat.log2 n + 1) i with h | h
  · rw [h]; simp [VR]
  · rw [h]; simp [VR]
/-- Arguments put in from a place on. -/
noncomputable def putAll : Nat → List AV → Tm → Tm
  | _, [], t => t
  | i, a :: l, t => putAll (i + 1) l (t.put i a)
theorem TR.putAll {E : Env} : ∀ (i : Nat) {as : List AV} {us : List Value} {t : Tm} {ws : Array Value}, VRs E as us → TR E t ws → TR E (AM.putAll i as t) ((us.zipIdx i).foldl (fun ws p => ws.setIfInBounds p.2 p.1) ws)
  | i, [], us, t, ws, h, ht => by
    simp only [VRs] at h
    subst h
    exact ht
  | i, a :: as, us, t, ws, h, ht => by
    simp only [VRs] at h
    obtain ⟨u, us', rfl, h2, h3⟩ := h
    simp only [AM.putAll, List.zipIdx_cons, List.foldl_cons]
    exact TR.putAll (i + 1) h3 (ht.put i h2)
theorem foldl_args : ∀ (us : List Value) (i : Nat) (ws : Array Value) (pre : List Value), pre.length = i → ws.toList = pre ++ List.replicate (us.length + (ws.size - (pre.length + us.length))) undef → pre.length + us.length ≤ ws.size →
    ((us.zipIdx i).foldl (fun ws p => ws.setIfInBounds p.2 p.1) ws).toList = pre ++ us ++ List.replicate (ws.size - (pre.length + us.length)) undef
  | [], i, ws, pre, hi, hw, hl => by simpa using hw
  | u :: us, i, ws, pre, hi, hw, hl => by
    simp only [List.zipIdx_cons, List.foldl_cons]
    simp only [List.length_cons] at hl hw
    have hset : (ws.setIfInBounds i u).toList = (pre ++ [u]) ++ List.replicate (us.length + (ws.size - (pre.length + 1 + us.length))) undef := by
      rw [Array.toList_setIfInBounds, hw, ← hi, List.set_append_right _ _ (Nat.le_refl _), Nat.sub_self]
      have e : us.length + 1 + (ws.size - (pre.length + (us.length + 1))) = (us.length + (ws.size - (pre.length + 1 + us.length))) + 1 := by omega
      rw [e, List.replicate_succ]
      simp
    have := foldl_args us (i + 1) (ws.setIfInBounds i u) (pre ++ [u]) (by simp [hi]) (by rw [hset]; simp [Array.size_setIfInBounds]) (by simp; omega)
    rw [this]
    simp only [List.append_assoc, List.singleton_append, List.length_append, List.length_cons, List.length_nil, Array.size_setIfInBounds]
    congr 3
    congr 1
    omega

structure St where
  tmps : Tm
  mem : Mem
noncomputable def St.eval (s : St) : Operand → AV
  | .tmp t => s.tmps.get t
  | .const v => AV.of v
  | .global g => .v (.pointer (some ⟨g, 0, none⟩))
  | .func f => .fn (.func f) [] []
noncomputable def putT (tmps : Tm) (dst : Option Tmp) (v : AV) : Tm :=
  match dst with
  | some d => tmps.put d v
  | none => tmps
theorem eval_rel {E : Env} {s : St} {a : Act} (h : TR E s.tmps a.tmps) (x : Operand) : VR E (s.eval x) (a.eval x) := by
  cases x with
  | tmp t => exact h.get t
  | const v => exact VR.of E v
  | global g => simp [St.eval, Act.eval, VR]
  | func f => simp only [St.eval, Act.eval, VR]; exact ⟨_, _, _, rfl, rfl, by simp [VRs], by simp [VRs]⟩
theorem put_rel {E : Env} {tmps : Tm} {a : Act} (h : TR E tmps a.tmps) (dst : Option Tmp) {v : AV} {u : Value} (hv : VR E v u) : TR E (putT tmps dst v) (a.put dst u).tmps := by
  cases dst with
  | none => exact h
  | some d => exact h.put d hv
theorem put_defers (a : Act) (dst : Option Tmp) (u : Value) : (a.put dst u).defers = a.defers := by cases dst <;> rfl
/-- Whether an operation is wanted. -/
noncomputable def gate {α : Type} (ops : Array Oper) (s : St) (o : Oper) (run skip : T α) : T α :=
  match o.guard with
  | none => run
  | some (j, want) =>
    match (ops[j]?).bind (·.dst) with
    | some d =>
      match s.tmps.get d with
      | .v (.bool b) => .ite (b == want) run skip
      | .v _ => skip
      | _ => .fail
    | none => .fail
theorem gate_sound {α : Type} {E : Env} {ops : Array Oper} {s : St} {o : Oper} {run skip : T α} {K : α → Prop} {a : Act} (h : (gate ops s o run skip).sat K) (hv : ∀ j want d, o.guard = some (j, want) → (ops[j]?).bind (·.dst) = some d → VR E (s.tmps.get d) (a.tmps.getD d undef)) :
    (Region.wanted o (yielded ops a.tmps) = true ∧ run.sat K) ∨ (Region.wanted o (yielded ops a.tmps) = false ∧ skip.sat K) := by
  unfold gate at h
  unfold Region.wanted
  split at h
  · rename_i hg; rw [hg]; exact .inl ⟨rfl, h⟩
  · rename_i j want hg
    rw [hg]
    dsimp only
    split at h
    · rename_i d hd
      have hx := hv j want d hg hd
      have hy : ∀ u, a.tmps.getD d undef = u → (∀ b, u ≠ .bool b) → yielded ops a.tmps j = none := fun u hu hb => by
        unfold yielded
        rw [hd]
        simp only [Option.bind_some]
        cases hq : a.tmps[d]? with
        | none => rfl
        | some q =>
          have : q = u := by rw [← hu]; simp [Array.getD_eq_getD_getElem?, hq]
          subst this
          cases q <;> first | rfl | exact (hb _ rfl).elim
      split at h
      · rename_i b hb
        rw [hb] at hx
        simp only [VR] at hx
        have hyy : yielded ops a.tmps j = some b := by
          unfold yielded
          rw [hd]
          simp only [Option.bind_some]
          cases hq : a.tmps[d]? with
          | none => rw [Array.getD_eq_getD_getElem?, hq] at hx; cases hx
          | some q =>
            rw [Array.getD_eq_getD_getElem?, hq] at hx
            simp only [Option.getD_some] at hx
            rw [hx]
        rw [hyy]
        cases hbw : (b == want)
        · rw [hbw] at h
          refine .inr ⟨?_, h.2 rfl⟩
          cases b <;> cases want <;> first | rfl | cases hbw
        · rw [hbw] at h
          refine .inl ⟨?_, h.1 rfl⟩
          cases b <;> cases want <;> first | rfl | cases hbw
      · rename_i x hne hb
        rw [hb] at hx
        simp only [VR] at hx
        rw [hy x hx (fun b hb' => hne b (by rw [hb'] at *))]
        exact .inr ⟨rfl, h⟩
      · exact h.elim
    · exact h.elim

section
variable (C : Cfg) (call : Call) (ops : Array Oper)
noncomputable def stepOp (o : Oper) (s : St) : T St :=
  gate ops s o ((aOp C call s.eval o s.mem).bind fun r => .ret ⟨putT s.tmps o.dst r.1, r.2⟩) (.ret ⟨putT s.tmps o.dst (.v undef), s.mem⟩)
noncomputable def evOps (l : List Oper) : St → T St := List.rec (motive := fun _ => St → T St) (fun s => .ret s) (fun o _ ih s => (stepOp C call ops o s).bind ih) l
end
/-- A state of ours and one of the model's. -/
structure In (E0 : Env) (M0 : Mem) (w0 : World) (d0 : List Deferred) (s : St) (a : Act) (w : World) : Prop where
  ex : ∃ E, TR E s.tmps a.tmps ∧ Step E0 M0 w0 E s.mem w
  defers : a.defers = d0
section
variable {C : Cfg} {call : Call} {ops : Array Oper} {E0 : Env} {M0 : Mem} {w0 : World} {d0 : List Deferred} {a : Act} {w : World}
theorem stepOp_sound (hC : C.Ok) (hcall : SoundCall C.P call) {o : Oper} {s : St} {K : St → Prop} {Q : Exit → Act → World → Prop} (h : (stepOp C call ops o s).sat K) (hI : In E0 M0 w0 d0 s a w) :
    (Region.wanted o (yielded ops a.tmps) = true ∧ o.wp C.P a w (fun a' w' => ∃ s', K s' ∧ In E0 M0 w0 d0 s' a' w') Q) ∨ (Region.wanted o (yielded ops a.tmps) = false ∧ ∃ s', K s' ∧ In E0 M0 w0 d0 s' (a.put o.dst undef) w) := by
  obtain ⟨⟨E, hv, hs⟩, hd⟩ := hI
  rcases gate_sound h (fun _ _ d _ _ => hv.get d) with ⟨hw, h⟩ | ⟨hw, h⟩
  · refine .inl ⟨hw, ?_⟩
    rw [T.sat_bind] at h
    have hA := aOp_sound hC hcall h (ρr := a.eval) (fun x _ => eval_rel hv x) hs.rel
    unfold Oper.wp
    generalize (execOp a.eval o).run C.P w = r at hA ⊢
    have fin : ∀ (u : Value) (w' : World), (∃ E' v M', K ⟨putT s.tmps o.dst v, M'⟩ ∧ VR E' v u ∧ Step E s.mem w E' M' w') → ∃ s', K s' ∧ In E0 M0 w0 d0 s' (a.put o.dst u) w' := fun u w' ⟨E', v, M', hk, hvu, hs'⟩ =>
      ⟨_, hk, ⟨⟨E', put_rel (hv.mono hs'.le) o.dst hvu, hs.trans hs'⟩, (put_defers a o.dst u).trans hd⟩⟩
    cases r with
    | halt x w' => exact hA.elim
    | ok x w' =>
      cases x <;> first | exact hA.elim | skip
      case value u => exact fin u w' hA
      case skip => exact fin undef w' hA
      case enter f args =>
        refine hA.mono ?_
        rintro e w'' ⟨u, rfl, hh⟩
        exact fin u w'' hh
  · exact .inr ⟨hw, _, h, ⟨⟨E, put_rel hv o.dst (by simp [VR]), hs⟩, (put_defers a o.dst undef).trans hd⟩⟩
theorem evOps_sound (hC : C.Ok) (hcall : SoundCall C.P call) {K : St → Prop} {Q : Exit → Act → World → Prop} (hQ : ∀ s a w, K s → In E0 M0 w0 d0 s a w → Q .normal a w) :
    ∀ (l : List Oper) (k : Nat) (is : List Nat) (s : St) (a : Act) (w : World), is = List.range' k l.length → (∀ j, l[j]? = ops[k + j]?) → (evOps C call ops l s).sat K → In E0 M0 w0 d0 s a w → wpOps C.P ops Q is a w
  | [], k, is, s, a, w, his, _, h, hI => by
    subst his
    exact hQ s a w h hI
  | o :: rest, k, is, s, a, w, his, hl, h, hI => by
    subst his
    have h0 : ops[k]? = some o := by simpa using (hl 0).symm
    have hl' : ∀ j, rest[j]? = ops[k + 1 + j]? := fun j => by have := hl (j + 1); simpa [Nat.add_assoc, Nat.add_comm 1 j] using this
    have h := T.sat_bind.1 (show ((stepOp C call ops o s).bind (evOps C call ops rest)).sat K from h)
    simp only [List.length_cons, List.range'_succ, wpOps, h0]
    rcases stepOp_sound hC hcall (Q := Q) h hI with ⟨hw, h1⟩ | ⟨hw, s', h1, h2⟩
    · rw [if_pos hw]
      exact .inl (Oper.wp_mono (fun a' w' ⟨s', h1, h2⟩ => evOps_sound hC hcall hQ rest (k + 1) _ s' a' w' rfl hl' h1 h2) h1)
    · rw [if_neg (by rw [hw]; simp)]
      exact evOps_sound hC hcall hQ rest (k + 1) _ s' _ w rfl hl' h1 h2
theorem evOps_region (hC : C.Ok) (hcall : SoundCall C.P call) {K : St → Prop} {Q : Exit → Act → World → Prop} {s : St} (h : (evOps C call ops ops.toList s).sat K) (hI : In E0 M0 w0 d0 s a w) (hQ : ∀ s a w, K s → In E0 M0 w0 d0 s a w → Q .normal a w) : wpOps C.P ops Q (List.range ops.size) a w :=
  evOps_sound hC hcall hQ ops.toList 0 _ s a w (by simp [List.range_eq_range']) (by simp) h hI
end
end Go.Proofs.YtnpggmdpokcakaaGreatDoor.AM
namespace Go.Proofs.YtnpggmdpokcakaaGreatDoor.AM
open Go.RowKit
variable [Base]

structure Rec where
  F : List Nat
  W : List Nat
  lo : Nat
  hi : Nat
instance : Inhabited Rec := ⟨⟨[], [], 0, 0⟩⟩
def AB.ro (b : AB) : AB := { b with own := false }
def maskGo (F W : List Nat) : Nat → Mem → Mem
  | _, [] => []
  | n, x :: M => (if W.contains n then x else if F.contains n then x.map AB.ro else none) :: maskGo F W (n + 1) M
def mrg (W : List Nat) : Nat → Mem → Mem → Mem
  | _, [], M' => M'
  | _, x :: M, [] => x :: M
  | n, x :: M, y :: M' => (if W.contains n then y else x) :: mrg W (n + 1) M M'
theorem maskGo_length (F W : List Nat) : ∀ (k : Nat) (M : Mem), (maskGo F W k M).length = M.length
  | _, [] => rfl
  | k, x :: M => by simp [maskGo, maskGo_length F W (k + 1) M]
theorem maskGo_get (F W : List Nat) : ∀ (k : Nat) (M : Mem) (n : Nat), (maskGo F W k M)[n]? = M[n]?.map fun x => if W.contains (k + n) then x else if F.contains (k + n) then x.map AB.ro else none
  | _, [], n => by simp [maskGo]
  | k, x :: M, 0 => by simp [maskGo]
  | k, x :: M, n + 1 => by
    simp only [maskGo, List.getElem?_cons_succ, maskGo_get F W (k + 1) M n]
    rw [show k + 1 + n = k + (n + 1) by omega]
theorem mrg_length (W : List Nat) : ∀ (k : Nat) (M M' : Mem), M.length ≤ M'.length → (mrg W k M M').length = M'.length
  | _, [], _, _ => by simp [mrg]
  | _, _ :: _, [], h => by simp at h
  | k, x :: M, y :: M', h => by simp [mrg, mrg_length W (k + 1) M M' (by simpa using h)]
theorem mrg_get (W : List Nat) : ∀ (k : Nat) (M M' : Mem), M.length ≤ M'.length → ∀ (n : Nat), (mrg W k M M')[n]? = if n < M.length then (if W.contains (k + n) then M'[n]? else M[n]?) else M'[n]?
  | _, [], _, _, n => by simp [mrg]
  | _, _ :: _, [], h, _ => by simp at h
  | k, x :: M, y :: M', h, 0 => by simp only [mrg, List.getElem?_cons_zero, List.length_cons, Nat.zero_lt_succ, if_true, Nat.add_zero]; split <;> rfl
  | k, x :: M, y :: M', h, n + 1 => by
    simp only [mrg, List.getElem?_cons_succ, mrg_get W (k + 1) M M' (by simpa using h) n, List.length_cons]
    rw [show k + 1 + n = k + (n + 1) by omega]
    simp only [Nat.add_lt_add_iff_right]

theorem mrg_nil : ∀ (k : Nat) (M M' : Mem), M'.length = M.length → mrg [] k M M' = M
  | _, [], [], _ => rfl
  | _, [], _ :: _, h => by simp at h
  | _, _ :: _, [], h => by simp at h
  | k, x :: M, y :: M', h => by
    simp only [mrg, List.contains_nil, Bool.false_eq_true, if_false]
    rw [mrg_nil (k + 1) M M' (by simpa using h)]
theorem mrg_mask (M : Mem) : mrg [] 0 M (maskGo [] [] 0 M) = M := mrg_nil 0 M _ (maskGo_length _ _ _ _)
/-- Which operations come ahead of each: a number of bits. -/
def befs : List Oper → List Nat → List Nat
  | [], acc => acc
  | o :: l, acc => befs l (acc ++ [o.after.foldl (fun s e => if Region.binds .any e then s ||| 2 ^ e.on ||| acc.getD e.on 0 else s) 0])
def touches (o : Oper) : Bool :=
  match o.op with
  | .load .. | .store .. | .alloc .. | .box .. | .buildSlice .. | .makeSlice .. => true
  | .call { callee := .builtin .append, .. } => true
  | .call { callee := .builtin .copy, .. } => true
  | .call { callee := .builtin _, .. } => false
  | .call _ => true
  | _ => false
def before (B : List Nat) (i j : Nat) : Bool := (B.getD j 0).testBit i
/-- All that touches memory comes ahead of it or behind it. -/
def lonely (ops : List Oper) (B : List Nat) (i : Nat) : Bool := (List.range ops.length).all fun j => j == i || before B i j || before B j i || !(touches (ops.getD j default))
def nm : AV → List Nat
  | .ptr n _ => [n]
  | .sl n _ _ _ => [n]
  | _ => []
noncomputable def footD (ops : List Oper) (B : List Nat) (c0 : Nat) (rs : List Rec) (i : Nat) (o : Oper) (s : St) : List Nat × List Nat :=
  match o.op with
  | .load _ a => (nm (s.eval a), [])
  | .store _ a _ => ([], nm (s.eval a))
  | .call { callee := .builtin .append, args, .. } =>
    match args.toList with
    | [x, y] =>
      match s.eval x with
      | .sl n _ _ .whole => (nm (s.eval y), [n])
      | x => (nm x ++ nm (s.eval y), [])
    | _ => ([], [])
  | .call { callee := .builtin .copy, args, .. } =>
    match args.toList with
    | [x, y] => (nm (s.eval y), nm (s.eval x))
    | _ => ([], [])
  | .call { callee := .builtin _, .. } => ([], [])
  | .call _ =>
    if lonely ops B i then ([], List.range s.mem.length)
    else ((List.range s.mem.length).filter fun n => n < c0 || o.after.any fun e => Region.binds .any e && (rs.getD e.on default).lo ≤ n && n < (rs.getD e.on default).hi, [])
  | _ => ([], [])
section
variable (C : Cfg) (call : Call) (ops : Array Oper) (B : List Nat) (c0 : Nat)
noncomputable def stepD (rs : List Rec) (i : Nat) (o : Oper) (s : St) : T (St × Rec) :=
  gate ops s o
    (bif touches o then
      (aOp C call s.eval o (maskGo (footD ops.toList B c0 rs i o s).1 (footD ops.toList B c0 rs i o s).2 0 s.mem)).bind fun r =>
        T.guard (decide (s.mem.length ≤ r.2.length) && (footD ops.toList B c0 rs i o s).2.all (fun n => n < s.mem.length)) <| .ret (⟨putT s.tmps o.dst r.1, mrg (footD ops.toList B c0 rs i o s).2 0 s.mem r.2⟩, ⟨(footD ops.toList B c0 rs i o s).1, (footD ops.toList B c0 rs i o s).2, s.mem.length, r.2.length⟩)
    else
      (aOp C call s.eval o (maskGo [] [] 0 s.mem)).bind fun r => .ret (⟨putT s.tmps o.dst r.1, s.mem⟩, ⟨[], [], s.mem.length, s.mem.length⟩))
    (.ret (⟨putT s.tmps o.dst (.v undef), s.mem⟩, ⟨[], [], s.mem.length, s.mem.length⟩))
noncomputable def evD (l : List Oper) : Nat → St → List Rec → T (St × List Rec) :=
  List.rec (motive := fun _ => Nat → St → List Rec → T (St × List Rec)) (fun _ s rs => .ret (s, rs)) (fun o _ ih i s rs => (stepD C call ops B c0 rs i o s).bind fun r => ih (i + 1) r.1 (rs ++ [r.2])) l
end
def Oper.onlyBack (i : Nat) (o : Oper) : Bool := o.after.all fun e => !(Region.binds .any e) || e.on < i
def staticOk (ops : Array Oper) (B : List Nat) : Bool :=
  (List.range ops.size).all fun j =>
    Oper.onlyBack j (ops.getD j default) && (List.range j).all fun i => before B i j || (ops.getD i default).apart ops (ops.getD j default)
def Rec.apart (x y : Rec) : Bool :=
  x.W.all (fun n => !(y.F.contains n) && !(y.W.contains n)) && y.W.all (fun n => !(x.F.contains n)) && (y.F ++ y.W).all fun n => n < x.lo || x.hi ≤ n
def Rec.quiet (x : Rec) : Bool := x.W.isEmpty && Nat.beq x.lo x.hi
def dynOkGo (B : List Nat) (rs : List Rec) : Nat → List Rec → Bool
  | _, [] => true
  | i, x :: l => (x.quiet || (List.range rs.length).all fun j => Nat.beq j i || before B i j || before B j i || (if Nat.blt i j then x.apart (rs.getD j default) else (rs.getD j default).apart x)) && dynOkGo B rs (i + 1) l
def dynOk (B : List Nat) (rs : List Rec) : Bool := dynOkGo B rs 0 rs
noncomputable def evDraw (C : Cfg) (call : Call) (ops : Array Oper) (s : St) : T St :=
  T.guard (staticOk ops (befs ops.toList [])) ((evD C call ops (befs ops.toList []) s.mem.length ops.toList 0 s []).bind fun r => T.guard (dynOk (befs ops.toList []) r.2) (.ret r.1))

/-! ### What comes ahead has come -/
theorem befs_length : ∀ (l : List Oper) (acc : List Nat), (befs l acc).length = acc.length + l.length
  | [], acc => by simp [befs]
  | o :: l, acc => by simp [befs, befs_length l]; omega
theorem befs_old : ∀ (l : List Oper) (acc : List Nat) (i : Nat), i < acc.length → (befs l acc).getD i 0 = acc.getD i 0
  | [], _, _, _ => rfl
  | o :: l, acc, i, h => by
    rw [befs, befs_old l _ i (by simp; omega)]
    simp [List.getD, List.getElem?_append_left h]
theorem foldl_bits {acc : List Nat} {j : Nat} : ∀ (l : List Edge) (s : Nat), (l.foldl (fun s e => if Region.binds .any e then s ||| 2 ^ e.on ||| acc.getD e.on 0 else s) s).testBit j = true →
    s.testBit j = true ∨ ∃ e ∈ l, Region.binds .any e = true ∧ (e.on = j ∨ (acc.getD e.on 0).testBit j = true)
  | [], s, h => .inl h
  | e :: l, s, h => by
    simp only [List.foldl_cons] at h
    rcases foldl_bits l _ h with h | ⟨e', he', h1, h2⟩
    · split at h
      · rename_i hb
        simp only [Nat.testBit_or, Bool.or_eq_true, Nat.testBit_two_pow, decide_eq_true_eq] at h
        rcases h with (h | h) | h
        · exact .inl h
        · exact .inr ⟨e, List.mem_cons_self, hb, .inl h⟩
        · exact .inr ⟨e, List.mem_cons_self, hb, .inr h⟩
      · exact .inl h
    · exact .inr ⟨e', List.mem_cons_of_mem _ he', h1, h2⟩
theorem befs_closed {L : Nat → Prop} {all : List Oper} (hL : ∀ i o, all[i]? = some o → L i → ∀ e ∈ o.after, Region.binds .any e = true → L e.on) :
    ∀ (l : List Oper) (acc : List Nat), (∀ j, l[j]? = all[acc.length + j]?) → (∀ i j, i < acc.length → L i → (acc.getD i 0).testBit j = true → L j) →
      ∀ i j, i < acc.length + l.length → L i → ((befs l acc).getD i 0).testBit j = true → L j
  | [], acc, _, h, i, j, hi, hLi, hb => h i j (by simpa using hi) hLi hb
  | o :: l, acc, hl, h, i, j, hi, hLi, hb => by
    refine befs_closed hL l _ (fun j => by have := hl (j + 1); simp only [List.getElem?_cons_succ] at this; rw [this]; simp [Nat.add_assoc, Nat.add_comm 1 j]) ?_ i j (by simp at hi ⊢; omega) hLi hb
    intro i j hi hLi hb
    rcases Nat.lt_or_ge i acc.length with hlt | hge
    · exact h i j hlt hLi (by simpa [List.getD, List.getElem?_append_left hlt] using hb)
    · have hia : i = acc.length := by simp at hi; omega
      subst hia
      simp only [List.getD, List.getElem?_append_right (Nat.le_refl _), Nat.sub_self, List.getElem?_cons_zero, Option.getD_some] at hb
      rw [← Array.foldl_toList] at hb
      have ho : all[acc.length]? = some o := by have := hl 0; simpa using this.symm
      rcases foldl_bits (acc := acc) _ _ hb with hb | ⟨e, he, h1, h2⟩
      · simp at hb
      · have hLe := hL _ o ho hLi e (by simpa using he) h1
        rcases h2 with h2 | h2
        · exact h2 ▸ hLe
        · rcases Nat.lt_or_ge e.on acc.length with hlt | hge
          · exact h e.on j hlt hLe h2
          · simp [List.getD, List.getElem?_eq_none hge] at h2
end Go.Proofs.YtnpggmdpokcakaaGreatDoor.AM
namespace Go.Proofs.YtnpggmdpokcakaaGreatDoor.AM
open Go.RowKit
variable [Base]

def cutE (E : Env) (c : Nat) : Env := fun n => if n < c then E n else none
theorem cutE_le (E : Env) {c c' : Nat} (h : c ≤ c') : (cutE E c).le (cutE E c') := fun n e hn => by
  unfold cutE at hn ⊢
  split at hn
  · rw [if_pos (by omega)]; exact hn
  · cases hn
theorem cutE_le' (E : Env) (c : Nat) : (cutE E c).le E := fun n e hn => by
  unfold cutE at hn
  split at hn
  · exact hn
  · cases hn
theorem cutE_some {E : Env} {c n : Nat} {e : Ent} (h : cutE E c n = some e) : n < c ∧ E n = some e := by
  unfold cutE at h
  split at h
  · exact ⟨by assumption, h⟩
  · cases h
theorem cutE_lt {E : Env} {c n : Nat} (h : n < c) : cutE E c n = E n := by unfold cutE; rw [if_pos h]
theorem RB.ro {E : Env} {w : World} {ab : AB} {e : Ent} (h : RB E w ab e) : RB E w ab.ro e := ⟨h.flat, h.one, h.cells, fun h' => by cases h'⟩

/-- The text's run. -/
structure Txt (ops : Array Oper) (S : Nat → St) (rs : Nat → Rec) : Prop where
  lo : ∀ i, i < ops.size → (rs i).lo = (S i).mem.length
  hi : ∀ i, i < ops.size → (rs i).hi = (S (i + 1)).mem.length
  mono : ∀ i, i < ops.size → (S i).mem.length ≤ (S (i + 1)).mem.length
  wlt : ∀ i n, i < ops.size → n ∈ (rs i).W → n < (rs i).lo
  tl : ∀ i, i < ops.size → (S (i + 1)).tmps.n = (S i).tmps.n
  tmp : ∀ i o t, ops[i]? = some o → (o.dst ≠ some t ∨ ¬ t < (S i).tmps.n) → (S (i + 1)).tmps.get t = (S i).tmps.get t
  mem : ∀ i n, i < ops.size → n ∉ (rs i).W → (n < (rs i).lo ∨ (rs i).hi ≤ n) → (S (i + 1)).mem[n]? = (S i).mem[n]?
/-- What is known of the operations, two by two. -/
structure Pairs (ops : Array Oper) (B : List Nat) (rs : Nat → Rec) : Prop where
  apart : ∀ i j x y, i < j → ops[i]? = some x → ops[j]? = some y → before B i j = true ∨ x.apart ops y = true
  rec_ : ∀ i j, i < j → j < ops.size → before B i j = true ∨ (rs i).apart (rs j) = true
def wr (rs : Nat → Rec) (n j : Nat) : Prop := n ∈ (rs j).W ∨ ((rs j).lo ≤ n ∧ n < (rs j).hi)
def ConsN (ops : Array Oper) (rs : Nat → Rec) (L : Nat → Prop) (m n : Nat) : Prop := m ≤ ops.size ∧ ∀ j, j < ops.size → wr rs n j → (j < m ↔ L j)
def ConsT (ops : Array Oper) (L : Nat → Prop) (m t : Nat) : Prop := m ≤ ops.size ∧ ∀ j o, ops[j]? = some o → o.dst = some t → (j < m ↔ L j)
section
variable {ops : Array Oper} {B : List Nat} {S : Nat → St} {rs : Nat → Rec} {L : Nat → Prop} {i : Nat} {o : Oper}

theorem Txt.mono' (hT : Txt ops S rs) {m m' : Nat} (h : m ≤ m') (h' : m' ≤ ops.size) : (S m).mem.length ≤ (S m').mem.length := by
  induction m' with
  | zero => have : m = 0 := by omega
            subst this; exact Nat.le_refl _
  | succ m' ih =>
    rcases Nat.lt_or_ge m (m' + 1) with hlt | hge
    · exact Nat.le_trans (ih (by omega) (by omega)) (hT.mono m' (by omega))
    · have : m = m' + 1 := by omega
      subst this; exact Nat.le_refl _
theorem apart_facts {x y : Rec} (h : x.apart y = true) : (∀ n ∈ x.W, n ∉ y.F ∧ n ∉ y.W) ∧ (∀ n ∈ y.W, n ∉ x.F) ∧ (∀ n, n ∈ y.F ∨ n ∈ y.W → n < x.lo ∨ x.hi ≤ n) := by
  simp only [Rec.apart, Bool.and_eq_true, List.all_eq_true, Bool.not_eq_true', Bool.or_eq_true, decide_eq_true_eq, List.mem_append] at h
  obtain ⟨⟨h1, h2⟩, h3⟩ := h
  exact ⟨fun n hn => by have := h1 n hn; simpa using this, fun n hn => by have := h2 n hn; simpa using this, h3⟩
/-- What operation i looks at lies as the text has it, once all that comes ahead has come and nothing that comes behind. -/
theorem consN_foot (hT : Txt ops S rs) (hP : Pairs ops B rs) (hi : i < ops.size) (hLi : ¬ L i) (hdn : ∀ j, j < i → before B j i = true → L j) (hup : ∀ j, j < ops.size → before B i j = true → ¬ L j) {n : Nat} (hn : n ∈ (rs i).F ∨ n ∈ (rs i).W) (hlt : n < (rs i).lo) : ConsN ops rs L i n := by
  refine ⟨by omega, fun j hj hw => ?_⟩
  rcases Nat.lt_trichotomy j i with h | h | h
  · refine ⟨fun _ => ?_, fun _ => h⟩
    rcases hP.rec_ j i h hi with hb | hb
    · exact hdn j h hb
    · obtain ⟨h1, h2, h3⟩ := apart_facts hb
      rcases hw with hw | hw
      · rcases hn with hn | hn
        · exact ((h1 n hw).1 hn).elim
        · exact ((h1 n hw).2 hn).elim
      · have := h3 n hn; omega
  · subst h
    exact ⟨fun h => by omega, fun h => (hLi h).elim⟩
  · refine ⟨fun h' => by omega, fun hL => ?_⟩
    rcases hP.rec_ i j h hj with hb | hb
    · exact (hup j hj hb hL).elim
    · obtain ⟨h1, h2, h3⟩ := apart_facts hb
      rcases hw with hw | hw
      · rcases hn with hn | hn
        · exact (h2 n hw hn).elim
        · exact ((h1 n hn).2 hw).elim
      · rw [hT.lo j hj] at hw
        rw [hT.lo i hi] at hlt
        have := hT.mono' (Nat.le_of_lt h) (Nat.le_of_lt hj)
        omega
theorem consT_looks (hP : Pairs ops B rs) (ho : ops[i]? = some o) (hLi : ¬ L i) (hdn : ∀ j, j < i → before B j i = true → L j) (hup : ∀ j, j < ops.size → before B i j = true → ¬ L j) {t : Tmp} (ht : t ∈ o.looksAt ops) : ConsT ops L i t := by
  have hi : i < ops.size := (Array.getElem?_eq_some_iff.1 ho).1
  refine ⟨by omega, fun j x hx hd => ?_⟩
  have hj : j < ops.size := (Array.getElem?_eq_some_iff.1 hx).1
  rcases Nat.lt_trichotomy j i with h | h | h
  · refine ⟨fun _ => ?_, fun _ => h⟩
    rcases hP.apart j i x o h hx ho with hb | hb
    · exact hdn j h hb
    · exact ((Oper.apart_spec hb).1 t hd ht).elim
  · subst h
    exact ⟨fun h => by omega, fun h => (hLi h).elim⟩
  · refine ⟨fun h' => by omega, fun hL => ?_⟩
    rcases hP.apart i j o x h ho hx with hb | hb
    · exact (hup j hj hb hL).elim
    · exact ((Oper.apart_spec hb).2.2 t hd ht).elim
theorem Txt.n0 (hT : Txt ops S rs) : ∀ m, m ≤ ops.size → (S m).tmps.n = (S 0).tmps.n := fun m => by
  induction m with
  | zero => intro _; rfl
  | succ m ih => intro h; rw [hT.tl m (by omega), ih (by omega)]
theorem Txt.out (hT : Txt ops S rs) {t : Nat} (ht : ¬ t < (S 0).tmps.n) : ∀ m, m ≤ ops.size → (S m).tmps.get t = (S 0).tmps.get t := fun m => by
  induction m with
  | zero => intro _; rfl
  | succ m ih =>
    intro h
    rw [hT.tmp m ops[m] t (Array.getElem?_eq_getElem (by omega)) (.inr (by rw [hT.n0 m (by omega)]; exact ht)), ih (by omega)]
/-- The text's value at a later cut, if nobody writes between. -/
theorem Txt.tmp_to (hT : Txt ops S rs) {t m m' : Nat} (h : m ≤ m') (h' : m' ≤ ops.size) (hn : ∀ j o, m ≤ j → j < m' → ops[j]? = some o → o.dst ≠ some t) : (S m').tmps.get t = (S m).tmps.get t := by
  induction m' with
  | zero => have : m = 0 := by omega
            subst this; rfl
  | succ m' ih =>
    rcases Nat.lt_or_ge m (m' + 1) with hlt | hge
    · rw [hT.tmp m' ops[m'] t (Array.getElem?_eq_getElem (by omega)) (.inl (hn m' _ (by omega) (by omega) (Array.getElem?_eq_getElem (by omega))))]
      exact ih (by omega) (by omega) (fun j o h1 h2 => hn j o h1 (by omega))
    · have : m = m' + 1 := by omega
      subst this; rfl
theorem Txt.mem_to (hT : Txt ops S rs) {n m m' : Nat} (h : m ≤ m') (h' : m' ≤ ops.size) (hn : ∀ j, m ≤ j → j < m' → ¬ wr rs n j) : (S m').mem[n]? = (S m).mem[n]? := by
  induction m' with
  | zero => have : m = 0 := by omega
            subst this; rfl
  | succ m' ih =>
    rcases Nat.lt_or_ge m (m' + 1) with hlt | hge
    · have hw := hn m' (by omega) (by omega)
      rw [hT.mem m' n (by omega) (fun h => hw (.inl h)) (by
        rcases Nat.lt_or_ge n (rs m').lo with h1 | h1
        · exact .inl h1
        · rcases Nat.lt_or_ge n (rs m').hi with h2 | h2
          · exact (hw (.inr ⟨h1, h2⟩)).elim
          · exact .inr h2)]
      exact ih (by omega) (by omega) (fun j h1 h2 => hn j h1 (by omega))
    · have : m = m' + 1 := by omega
      subst this; rfl
end

/-- What is kept. -/
structure Inv (ops : Array Oper) (S : Nat → St) (rs : Nat → Rec) (E0 : Env) (w0 : World) (d0 : List Deferred) (L : Nat → Prop) (E : Env) (a : Act) (w : World) : Prop where
  tl : a.tmps.size = (S 0).tmps.n
  T : ∀ t m, ConsT ops L m t → VR (cutE E (S m).mem.length) ((S m).tmps.get t) (a.tmps.getD t undef)
  Out : ∀ t, ¬ t < (S 0).tmps.n → VR (cutE E (S 0).mem.length) ((S 0).tmps.get t) undef
  N : ∀ n m ab, ConsN ops rs L m n → (S m).mem[n]? = some (some ab) → ∃ e, E n = some e ∧ RB (cutE E (S m).mem.length) w ab e
  Kd : ∀ n m ab, ConsN ops rs L m n → (S m).mem[n]? = some (some ab) → (n < (S 0).mem.length → ∃ ab0, (S 0).mem[n]? = some (some ab0) ∧ ab0.own = ab.own) ∧ ((S 0).mem.length ≤ n → ab.own = true)
  J : ∀ n n' m m' ab ab' e e', ConsN ops rs L m n → ConsN ops rs L m' n' → (S m).mem[n]? = some (some ab) → (S m').mem[n']? = some (some ab') → ab.own = true → n ≠ n' → E n = some e → E n' = some e' → e.b ≠ e'.b
  D : ∀ n e, E n = some e → e.b < w.heap.size
  Z : ∀ n e, E n = some e → n < (S 0).mem.length ∨ ∃ j, j < ops.size ∧ L j ∧ (S j).mem.length ≤ n ∧ n < (S (j + 1)).mem.length
  O : ∀ n, n < (S 0).mem.length → E n = E0 n
  os : w.os = w0.os
  tape : w.tape = w0.tape
  output : w.output = w0.output
  size : w0.heap.size ≤ w.heap.size
  block : ∀ b, b < w0.heap.size → (∀ n ab e, (S 0).mem[n]? = some (some ab) → ab.own = true → E0 n = some e → e.b ≠ b) → w.heap[b]? = w0.heap[b]?
  org : ∀ n m ab e, ConsN ops rs L m n → (S m).mem[n]? = some (some ab) → ab.own = true → E n = some e → w0.heap.size ≤ e.b ∨ ∃ m ab', (S 0).mem[m]? = some (some ab') ∧ ab'.own = true ∧ ∃ e', E0 m = some e' ∧ e'.b = e.b
  defers : a.defers = d0
  inv : Base.I w
  gle : ∀ b, Base.K b → b < w.heap.size
  bse : ∀ n m ab e, ConsN ops rs L m n → (S m).mem[n]? = some (some ab) → ab.own = true → E n = some e → ¬ Base.K e.b
section
variable {ops : Array Oper} {B : List Nat} {S : Nat → St} {rs : Nat → Rec} {L : Nat → Prop} {i : Nat} {o : Oper} {E0 E : Env} {w0 w : World} {a : Act} {d0 : List Deferred}

/-- What operation i has before it. -/
theorem Inv.foot (hI : Inv ops S rs E0 w0 d0 L E a w) (hT : Txt ops S rs) (hP : Pairs ops B rs) (hi : i < ops.size) (hLi : ¬ L i) (hdn : ∀ j, j < i → before B j i = true → L j) (hup : ∀ j, j < ops.size → before B i j = true → ¬ L j) :
    R (cutE E (S i).mem.length) (maskGo (rs i).F (rs i).W 0 (S i).mem) w := by
  have hget : ∀ {n : Nat} {x : AB}, (maskGo (rs i).F (rs i).W 0 (S i).mem)[n]? = some (some x) → ∃ ab, (S i).mem[n]? = some (some ab) ∧ ConsN ops rs L i n ∧ n < (S i).mem.length ∧ (x = ab ∧ n ∈ (rs i).W ∨ x = ab.ro) := fun {n x} hn => by
    rw [maskGo_get] at hn
    cases hq : (S i).mem[n]? with
    | none => rw [hq] at hn; cases hn
    | some y =>
      have hlt := get_lt hq
      rw [hq] at hn
      simp only [Option.map_some, Option.some.injEq, Nat.zero_add] at hn
      split at hn
      · rename_i hW
        subst hn
        exact ⟨x, rfl, consN_foot hT hP hi hLi hdn hup (.inr (by simpa using hW)) (by rw [hT.lo i hi]; exact hlt), hlt, .inl ⟨rfl, by simpa using hW⟩⟩
      · split at hn
        · rename_i hF
          cases y with
          | none => cases hn
          | some ab =>
            simp only [Option.map_some, Option.some.injEq] at hn
            exact ⟨ab, rfl, consN_foot hT hP hi hLi hdn hup (.inl (by simpa using hF)) (by rw [hT.lo i hi]; exact hlt), hlt, .inr hn.symm⟩
        · cases hn
  refine ⟨fun n hn => ?_, fun n e he => hI.D n e (cutE_some he).2, fun n x hn => ?_, fun n m x y e1 e2 hn hm ho hne he1 he2 => ?_, hI.inv, hI.gle, fun n x e hn ho he => ?_⟩
  · rw [maskGo_length] at hn
    unfold cutE
    rw [if_neg (by omega)]
  · obtain ⟨ab, h1, h2, h3, h4⟩ := hget hn
    obtain ⟨e, h5, h6⟩ := hI.N n i ab h2 h1
    refine ⟨e, by rw [cutE_lt h3]; exact h5, ?_⟩
    rcases h4 with ⟨rfl, _⟩ | rfl
    · exact h6
    · exact h6.ro
  · obtain ⟨ab, h1, h2, h3, h4⟩ := hget hn
    obtain ⟨ab', h1', h2', h3', h4'⟩ := hget hm
    have hoo : ab.own = true := by
      rcases h4 with ⟨rfl, _⟩ | rfl
      · exact ho
      · cases ho
    exact hI.J n m i i ab ab' e1 e2 h2 h2' h1 h1' hoo hne (cutE_some he1).2 (cutE_some he2).2
  · obtain ⟨ab, h1, h2, h3, h4⟩ := hget hn
    have hoo : ab.own = true := by
      rcases h4 with ⟨rfl, _⟩ | rfl
      · exact ho
      · cases ho
    exact hI.bse n i ab e h2 h1 hoo (cutE_some he).2
theorem Inv.next (hI : Inv ops S rs E0 w0 d0 L E a w) (hT : Txt ops S rs) (hP : Pairs ops B rs) (ho : ops[i]? = some o) (hLi : ¬ L i) (hdn : ∀ j, j < i → before B j i = true → L j) (hup : ∀ j, j < ops.size → before B i j = true → ¬ L j)
    {E1 : Env} {M1 : Mem} {w' : World} {v : AV} {u : Value} (hs : Step (cutE E (S i).mem.length) (maskGo (rs i).F (rs i).W 0 (S i).mem) w E1 M1 w') (hv : VR E1 v u) (hS : S (i + 1) = ⟨putT (S i).tmps o.dst v, mrg (rs i).W 0 (S i).mem M1⟩) :
    ∃ E', Inv ops S rs E0 w0 d0 (fun j => L j ∨ j = i) E' (a.put o.dst u) w' := by
  have hi : i < ops.size := (Array.getElem?_eq_some_iff.1 ho).1
  have hlen : (S i).mem.length ≤ M1.length := by have := hs.len; rwa [maskGo_length] at this
  have hlen1 : (S (i + 1)).mem.length = M1.length := by rw [hS]; exact mrg_length _ _ _ _ hlen
  have hlo := hT.lo i hi
  have hhi := hT.hi i hi
  -- the new places
  let E' : Env := fun n => if (S i).mem.length ≤ n ∧ n < M1.length then E1 n else E n
  have hEn : ∀ n e, E n = some e → ¬ ((S i).mem.length ≤ n ∧ n < M1.length) := fun n e he hr => by
    rcases hI.Z n e he with h | ⟨j, hj, hL, h1, h2⟩
    · have := hT.mono' (Nat.zero_le i) (Nat.le_of_lt hi); omega
    · rcases Nat.lt_trichotomy j i with h | h | h
      · have := hT.mono' (show j + 1 ≤ i by omega) (Nat.le_of_lt hi); omega
      · subst h; exact hLi hL
      · have := hT.mono' (show i + 1 ≤ j by omega) (Nat.le_of_lt hj); omega
  have hle : E.le E' := fun n e he => by
    show (if _ then _ else _) = _
    rw [if_neg (hEn n e he)]; exact he
  have hcut : ∀ c, (cutE E c).le (cutE E' c) := fun c n e he => by
    obtain ⟨h1, h2⟩ := cutE_some he
    rw [cutE_lt h1]
    exact hle _ _ h2
  have hE1 : E1.le (cutE E' M1.length) := fun n e he => by
    have hn := hs.rel.le he
    rw [cutE_lt hn]
    show (if _ then _ else _) = _
    rcases Nat.lt_or_ge n (S i).mem.length with h | h
    · rw [if_neg (by omega)]
      have := hs.old n (by rw [maskGo_length]; exact h)
      rw [this] at he
      exact (cutE_some he).2
    · rw [if_pos ⟨h, hn⟩]; exact he
  have hE'1 : ∀ n e, (S i).mem.length ≤ n → n < M1.length → E' n = some e → E1 n = some e := fun n e h1 h2 he => by
    have : E' n = E1 n := if_pos ⟨h1, h2⟩
    rwa [this] at he
  have hE'0 : ∀ n, ¬ ((S i).mem.length ≤ n ∧ n < M1.length) → E' n = E n := fun n h => if_neg h
  -- cuts
  have hww : ∀ {n j : Nat}, i < j → j < ops.size → wr rs n i → wr rs n j → ¬ (rs i).apart (rs j) = true := fun {n j} hij hj hw hwj hb => by
    obtain ⟨h1, h2, h3⟩ := apart_facts hb
    have h4 := hT.mono' (show i + 1 ≤ j by omega) (Nat.le_of_lt hj)
    rcases hw with hw | hw
    · have h5 := hT.wlt i n hi hw
      rcases hwj with hwj | hwj
      · exact (h1 n hw).2 hwj
      · rw [hT.lo j hj] at hwj
        have := hT.mono i hi
        omega
    · rcases hwj with hwj | hwj
      · have := h3 n (.inr hwj); omega
      · rw [hT.lo j hj] at hwj
        omega
  have hwi : ∀ {n m : Nat}, ConsN ops rs (fun j => L j ∨ j = i) m n → wr rs n i → i < m ∧ (S m).mem[n]? = (S (i + 1)).mem[n]? := fun {n m} hc hw => by
    have him : i < m := (hc.2 i hi hw).2 (.inr rfl)
    refine ⟨him, hT.mem_to (show i + 1 ≤ m by omega) hc.1 fun j h1 h2 hwj => ?_⟩
    have hj : j < ops.size := by have := hc.1; omega
    rcases (hc.2 j hj hwj).1 h2 with hL | hL
    · rcases hP.rec_ i j (by omega) hj with hb | hb
      · exact hup j hj hb hL
      · exact hww (by omega) hj hw hwj hb
    · omega
  have hnw : ∀ {n m : Nat}, ConsN ops rs (fun j => L j ∨ j = i) m n → ¬ wr rs n i → ConsN ops rs L m n := fun {n m} hc hw =>
    ⟨hc.1, fun j hj hwj => (hc.2 j hj hwj).trans ⟨fun h => h.resolve_right (fun e => hw (e ▸ hwj)), .inl⟩⟩
  -- what lies at a written name
  have hnew : ∀ {n : Nat} {ab : AB}, wr rs n i → (S (i + 1)).mem[n]? = some (some ab) → M1[n]? = some (some ab) := fun {n ab} hw hn => by
    rw [hS] at hn
    simp only at hn
    rw [mrg_get _ _ _ _ hlen, Nat.zero_add] at hn
    rcases hw with hw | hw
    · rw [if_pos (by rw [← hlo]; exact hT.wlt i n hi hw), if_pos (by simpa using hw)] at hn; exact hn
    · rw [if_neg (by omega)] at hn; exact hn
  have hwlt : ∀ {n : Nat}, wr rs n i → n < M1.length := fun {n} hw => by
    rcases hw with hw | hw
    · have := hT.wlt i n hi hw; omega
    · omega
  have hE'w : ∀ {n : Nat} {e : Ent}, wr rs n i → E1 n = some e → E' n = some e := fun {n e} hw he => (cutE_some (hE1 n e he)).2
  have hE'w' : ∀ {n : Nat} {e : Ent}, wr rs n i → E' n = some e → E1 n = some e := fun {n e} hw he => by
    rcases Nat.lt_or_ge n (S i).mem.length with h | h
    · rw [hE'0 n (by omega)] at he
      rw [hs.old n (by rw [maskGo_length]; exact h), cutE_lt h]; exact he
    · exact hE'1 n e h (hwlt hw) he
  have hnwr : ∀ {n : Nat}, ¬ wr rs n i → ¬ ((S i).mem.length ≤ n ∧ n < M1.length) := fun {n} hw h => hw (.inr (by rw [hlo, hhi, hlen1]; exact h))
  -- an own block of i's
  have hown : ∀ {n : Nat} {ab : AB}, (maskGo (rs i).F (rs i).W 0 (S i).mem)[n]? = some (some ab) → ab.own = true → n ∈ (rs i).W ∧ (S i).mem[n]? = some (some ab) ∧ ConsN ops rs L i n ∧ n < (S i).mem.length := fun {n ab} hn hab => by
    rw [maskGo_get] at hn
    cases hq : (S i).mem[n]? with
    | none => rw [hq] at hn; cases hn
    | some y =>
      have hlt := get_lt hq
      rw [hq] at hn
      simp only [Option.map_some, Option.some.injEq, Nat.zero_add] at hn
      split at hn
      · rename_i hW
        have hW' : n ∈ (rs i).W := by simpa using hW
        subst hn
        exact ⟨hW', rfl, consN_foot hT hP hi hLi hdn hup (.inr hW') (by rw [hlo]; exact hlt), hlt⟩
      · split at hn
        · cases y with
          | none => cases hn
          | some ab' =>
            simp only [Option.map_some, Option.some.injEq] at hn
            subst hn
            cases hab
        · cases hn
  -- what is not written lies as it lay
  have hkeep : ∀ {n m : Nat} {ab : AB} {e : Ent}, ConsN ops rs L m n → ¬ wr rs n i → (S m).mem[n]? = some (some ab) → E n = some e → w'.heap[e.b]? = w.heap[e.b]? := fun {n m ab e} hc hw hn he => by
    refine hs.block e.b (hI.D n e he) fun n' ab' e' hn' hab' he' => ?_
    obtain ⟨h1, h2, h3, h4⟩ := hown hn' hab'
    exact hI.J n' n i m ab' ab e' e h3 hc h2 hn hab' (fun h => hw (h ▸ .inl h1)) (cutE_some he').2 he
  refine ⟨E', ?_⟩
  constructor
  · cases hd : o.dst <;> simp [Act.put, hd, hI.tl]
  · -- temporaries
    intro t m hc
    by_cases hd : o.dst = some t
    · have him : i < m := (hc.2 i o ho hd).2 (.inr rfl)
      have hsm : (S m).tmps.get t = (S (i + 1)).tmps.get t := hT.tmp_to (show i + 1 ≤ m by omega) hc.1 fun j x h1 h2 hx hdx => by
        have hj : j < ops.size := (Array.getElem?_eq_some_iff.1 hx).1
        rcases (hc.2 j x hx hdx).1 h2 with hL | hL
        · rcases hP.apart i j o x (by omega) ho hx with hb | hb
          · exact hup j hj hb hL
          · exact (Oper.apart_spec hb).2.1 t hd hdx
        · omega
      have hm1 : M1.length ≤ (S m).mem.length := by rw [← hlen1]; exact hT.mono' (show i + 1 ≤ m by omega) hc.1
      rw [hsm, hS]
      simp only [putT, Act.put, hd]
      by_cases ht : t < (S i).tmps.n
      · have hta : t < a.tmps.size := by
          rw [hI.tl]
          have : ∀ m, m ≤ i → (S m).tmps.n = (S 0).tmps.n := fun m => by
            induction m with
            | zero => intro _; rfl
            | succ m ih => intro h; rw [hT.tl m (by omega), ih (by omega)]
          rw [← this i (Nat.le_refl _)]; exact ht
        have e2 : (a.tmps.setIfInBounds t u).getD t undef = u := by simp [Array.getD_eq_getD_getElem?, hta]
        rw [e2]
        rcases (S i).tmps.get_self v ht with e1 | e1 <;> rw [e1]
        · exact hv.mono (Env.le_trans hE1 (cutE_le E' hm1))
        · simp [VR]
      · rw [(S i).tmps.get_out v ht]
        have hta : ¬ t < a.tmps.size := by
          rw [hI.tl]
          have : ∀ m, m ≤ i → (S m).tmps.n = (S 0).tmps.n := fun m => by
            induction m with
            | zero => intro _; rfl
            | succ m ih => intro h; rw [hT.tl m (by omega), ih (by omega)]
          rw [← this i (Nat.le_refl _)]; exact ht
        have e2 : (a.tmps.setIfInBounds t u).getD t undef = undef := by simp [Array.getD_eq_getD_getElem?, Array.getElem?_eq_none (show (a.tmps.setIfInBounds t u).size ≤ t by simpa using Nat.le_of_not_lt hta)]
        rw [e2]
        have ht0 : ¬ t < (S 0).tmps.n := by rw [← hT.n0 i (Nat.le_of_lt hi)]; exact ht
        rw [hT.out ht0 i (Nat.le_of_lt hi)]
        exact (hI.Out t ht0).mono (Env.le_trans (hcut _) (cutE_le E' (hT.mono' (Nat.zero_le m) hc.1)))
    · have hc' : ConsT ops L m t := ⟨hc.1, fun j x hx hdx => (hc.2 j x hx hdx).trans ⟨fun h => h.resolve_right (fun e => by subst e; rw [ho] at hx; injection hx with hx; subst hx; exact hd hdx), .inl⟩⟩
      have e2 : (a.put o.dst u).tmps.getD t undef = a.tmps.getD t undef := by
        cases hdd : o.dst with
        | none => rfl
        | some d =>
          have hne : d ≠ t := fun e => hd (by rw [hdd, e])
          simp [Act.put, Array.getD_eq_getD_getElem?, Array.getElem?_setIfInBounds_ne hne]
      rw [e2]
      exact (hI.T t m hc').mono (hcut _)
  · exact fun t ht => (hI.Out t ht).mono (hcut _)
  · -- names
    intro n m ab hc hn
    by_cases hw : wr rs n i
    · obtain ⟨him, heq⟩ := hwi hc hw
      rw [heq] at hn
      obtain ⟨e, he, hb⟩ := hs.rel.live n ab (hnew hw hn)
      have hm1 : M1.length ≤ (S m).mem.length := by rw [← hlen1]; exact hT.mono' (show i + 1 ≤ m by omega) hc.1
      exact ⟨e, hE'w hw he, hb.keep (Env.le_trans hE1 (cutE_le E' hm1)) rfl⟩
    · have hc' := hnw hc hw
      obtain ⟨e, he, hb⟩ := hI.N n m ab hc' hn
      exact ⟨e, hle _ _ he, hb.keep (hcut _) (hkeep hc' hw hn he)⟩
  · -- kinds
    intro n m ab hc hn
    by_cases hw : wr rs n i
    · obtain ⟨him, heq⟩ := hwi hc hw
      rw [heq] at hn
      have hk := hs.kind n ab (hnew hw hn)
      rw [maskGo_length] at hk
      have h0i := hT.mono' (Nat.zero_le i) (Nat.le_of_lt hi)
      rcases Nat.lt_or_ge n (S i).mem.length with hlt | hge
      · obtain ⟨ab0, h1, h2⟩ := hk.1 hlt
        rw [maskGo_get] at h1
        cases hq : (S i).mem[n]? with
        | none => rw [hq] at h1; cases h1
        | some y =>
          rw [hq] at h1
          simp only [Option.map_some, Option.some.injEq, Nat.zero_add] at h1
          have hW : n ∈ (rs i).W := hw.resolve_right (fun h => by omega)
          rw [if_pos (by simpa using hW)] at h1
          subst h1
          have := hI.Kd n i ab0 (consN_foot hT hP hi hLi hdn hup (.inr hW) (by rw [hlo]; exact hlt)) hq
          exact ⟨fun h => let ⟨x, h3, h4⟩ := this.1 h; ⟨x, h3, h4.trans h2⟩, fun h => h2 ▸ this.2 h⟩
      · exact ⟨fun h => by omega, fun _ => hk.2 hge⟩
    · exact hI.Kd n m ab (hnw hc hw) hn
  · -- no two alike
    intro n n' m m' ab ab' e e' hc hc' hn hn' hab hne he he'
    by_cases hw : wr rs n i
    · obtain ⟨him, heq⟩ := hwi hc hw
      rw [heq] at hn
      have hn1 := hnew hw hn
      have he1 := hE'w' hw he
      by_cases hw' : wr rs n' i
      · obtain ⟨him', heq'⟩ := hwi hc' hw'
        rw [heq'] at hn'
        exact hs.rel.inj n n' ab ab' e e' hn1 (hnew hw' hn') hab hne he1 (hE'w' hw' he')
      · rw [hE'0 n' (hnwr hw')] at he'
        have hc2 := hnw hc' hw'
        rcases hs.org n ab e hn1 hab he1 with h | ⟨k, abk, h1, h2, ek, h3, h4⟩
        · have := hI.D n' e' he'; omega
        · obtain ⟨h5, h6, h7, h8⟩ := hown h1 h2
          rw [← h4]
          exact hI.J k n' i m' abk ab' ek e' h7 hc2 h6 hn' h2 (fun h => hw' (h ▸ .inl h5)) (cutE_some h3).2 he'
    · rw [hE'0 n (hnwr hw)] at he
      have hc1 := hnw hc hw
      by_cases hw' : wr rs n' i
      · obtain ⟨him', heq'⟩ := hwi hc' hw'
        rw [heq'] at hn'
        have hn1 := hnew hw' hn'
        have he1 := hE'w' hw' he'
        have hk := hs.kind n' ab' hn1
        rw [maskGo_length] at hk
        by_cases hab' : ab'.own = true
        · rcases hs.org n' ab' e' hn1 hab' he1 with h | ⟨k, abk, h1, h2, ek, h3, h4⟩
          · have := hI.D n e he; omega
          · obtain ⟨h5, h6, h7, h8⟩ := hown h1 h2
            rw [← h4]
            exact fun hh => hI.J k n i m abk ab ek e h7 hc1 h6 hn h2 (fun h => hw (h ▸ .inl h5)) (cutE_some h3).2 he hh.symm
        · -- an old name that is not own
          rcases Nat.lt_or_ge n' (S i).mem.length with hlt | hge
          · have hW : n' ∈ (rs i).W := hw'.resolve_right (fun h => by omega)
            obtain ⟨ab0, h1, h2⟩ := hk.1 hlt
            rw [maskGo_get] at h1
            cases hq : (S i).mem[n']? with
            | none => rw [hq] at h1; cases h1
            | some y =>
              rw [hq] at h1
              simp only [Option.map_some, Option.some.injEq, Nat.zero_add] at h1
              rw [if_pos (by simpa using hW)] at h1
              subst h1
              have hci := consN_foot hT hP hi hLi hdn hup (.inr hW) (by rw [hlo]; exact hlt)
              have heE : E n' = some e' := by rw [← hE'0 n' (by omega)]; exact he'
              exact hI.J n n' m i ab ab0 e e' hc1 hci hn hq hab hne he heE
          · exact (hab' (hk.2 hge)).elim
      · rw [hE'0 n' (hnwr hw')] at he'
        exact hI.J n n' m m' ab ab' e e' hc1 (hnw hc' hw') hn hn' hab hne he he'
  · -- the heap
    intro n e he
    by_cases h : (S i).mem.length ≤ n ∧ n < M1.length
    · exact hs.rel.dom n e (hE'1 n e h.1 h.2 he)
    · rw [hE'0 n h] at he
      exact Nat.lt_of_lt_of_le (hI.D n e he) hs.size
  · intro n e he
    by_cases h : (S i).mem.length ≤ n ∧ n < M1.length
    · exact .inr ⟨i, hi, .inr rfl, h.1, by rw [hlen1]; exact h.2⟩
    · rw [hE'0 n h] at he
      rcases hI.Z n e he with h1 | ⟨j, h1, h2, h3⟩
      · exact .inl h1
      · exact .inr ⟨j, h1, .inl h2, h3⟩
  · intro n hn
    have := hT.mono' (Nat.zero_le i) (Nat.le_of_lt hi)
    rw [hE'0 n (by omega)]
    exact hI.O n hn
  · exact hs.os.trans hI.os
  · exact hs.tape.trans hI.tape
  · exact hs.output.trans hI.output
  · exact Nat.le_trans hI.size hs.size
  · -- the old blocks
    intro b hb hno
    refine (hs.block b (Nat.lt_of_lt_of_le hb hI.size) fun n ab e hn hab he => ?_).trans (hI.block b hb hno)
    obtain ⟨h5, h6, h7, h8⟩ := hown hn hab
    rcases hI.org n i ab e h7 h6 hab (cutE_some he).2 with h | ⟨k, abk, h1, h2, ek, h3, h4⟩
    · omega
    · rw [← h4]; exact hno k abk ek h1 h2 h3
  · -- where own blocks come from
    intro n m ab e hc hn hab he
    by_cases hw : wr rs n i
    · obtain ⟨him, heq⟩ := hwi hc hw
      rw [heq] at hn
      rcases hs.org n ab e (hnew hw hn) hab (hE'w' hw he) with h | ⟨k, abk, h1, h2, ek, h3, h4⟩
      · exact .inl (Nat.le_trans hI.size h)
      · obtain ⟨h5, h6, h7, h8⟩ := hown h1 h2
        rw [← h4]
        exact hI.org k i abk ek h7 h6 h2 (cutE_some h3).2
    · rw [hE'0 n (hnwr hw)] at he
      exact hI.org n m ab e (hnw hc hw) hn hab he
  · exact (put_defers a o.dst u).trans hI.defers
  · exact hs.rel.inv
  · exact hs.rel.gle
  · intro n m ab e hc hn hab he
    by_cases hw : wr rs n i
    · obtain ⟨him, heq⟩ := hwi hc hw
      rw [heq] at hn
      exact hs.rel.base n ab e (hnew hw hn) hab (hE'w' hw he)
    · rw [hE'0 n (hnwr hw)] at he
      exact hI.bse n m ab e (hnw hc hw) hn hab he
end
end Go.Proofs.YtnpggmdpokcakaaGreatDoor.AM
namespace Go.Proofs.YtnpggmdpokcakaaGreatDoor.AM
open Go.RowKit
variable [Base]
section
variable {C : Cfg} {call : Call} {ops : Array Oper} {B : List Nat} {c0 : Nat}

theorem T.run_bind_some {α β : Type} {t : T α} {f : α → T β} {y : β} (h : (t.bind f).run = some y) : ∃ x, t.run = some x ∧ (f x).run = some y := by
  rw [T.run_bind] at h
  exact Option.bind_eq_some_iff.1 h
theorem T.ite_some {α : Type} {b : Bool} {x y : T α} {z : α} (h : (T.ite b x y).run = some z) : (b = true ∧ x.run = some z) ∨ (b = false ∧ y.run = some z) := by
  rw [T.run_ite] at h
  cases b
  · exact .inr ⟨rfl, h⟩
  · exact .inl ⟨rfl, h⟩
theorem T.guard_some {α : Type} {b : Bool} {x : T α} {z : α} (h : (T.guard b x).run = some z) : b = true ∧ x.run = some z := by
  rcases T.ite_some h with h | ⟨_, h⟩
  · exact h
  · cases h
theorem gate_run {α : Type} {s : St} {o : Oper} {run skip : T α} {x : α} (h : (gate ops s o run skip).run = some x) : run.run = some x ∨ skip.run = some x := by
  unfold gate at h
  split at h
  · exact .inl h
  · split at h
    · split at h
      · rcases T.ite_some h with h | h
        · exact .inl h.2
        · exact .inr h.2
      · exact .inr h
      · cases h
    · cases h
/-- What does not touch memory leaves it. -/
theorem aPureT_mem {ρ : Operand → AV} {o : Oper} {M : Mem} {r : AV × Mem} (h : (aPureT C ρ o M).run = some r) : r.2 = M := by
  obtain ⟨x, _, h2⟩ := T.run_bind_some h
  simp only [T.run_ret, Option.some.injEq] at h2
  rw [← h2]
theorem pairM_mem {t : T AV} {M : Mem} {r : AV × Mem} (h : (pairM M t).run = some r) : r.2 = M := by
  obtain ⟨x, _, h2⟩ := T.run_bind_some h
  simp only [T.run_ret, Option.some.injEq] at h2
  rw [← h2]
theorem ret_mem {v : AV} {M : Mem} {r : AV × Mem} (h : (T.ret (v, M)).run = some r) : r.2 = M := by
  simp only [T.run_ret, Option.some.injEq] at h
  rw [← h]
theorem fail_mem {M : Mem} {r : AV × Mem} (h : (T.fail : T (AV × Mem)).run = some r) : r.2 = M := by cases h
theorem aOp_mem {ρ : Operand → AV} {o : Oper} {M : Mem} {r : AV × Mem} (ht : touches o = false) (h : (aOp C call ρ o M).run = some r) : r.2 = M := by
  obtain ⟨dst, op, type, pos, after, guard⟩ := o
  cases op <;> simp only [aOp] at h <;> first
    | exact ret_mem h
    | exact pairM_mem h
    | exact aPureT_mem h
    | exact ret_mem (T.guard_some h).2
    | (simp [touches] at ht; done)
    | (simp only [noSel, if_true] at h; exact aPureT_mem h)
    | (simp only [noSel, Bool.false_eq_true, if_false] at h; cases h; done)
    | skip
  case pick c a b =>
    split at h
    · rcases T.ite_some h with h | h
      · exact ret_mem h.2
      · exact ret_mem h.2
    · cases h
  case nilCheck x =>
    split at h <;> first | exact ret_mem h | exact aPureT_mem h
  case makeInterface t x =>
    split at h <;> first | exact ret_mem h | exact fail_mem h
  case slice t x lo hi mx =>
    split at h <;> first | exact pairM_mem h | exact aPureT_mem h
  case binOp op t x y yt =>
    split at h
    · split at h
      · exact pairM_mem h
      · cases h
    · split at h <;> first | exact ret_mem h | exact fail_mem h
    · exact aPureT_mem h
  case unOp op t x =>
    split at h <;> first | exact ret_mem h | exact aPureT_mem h
  case makeMap t r' =>
    split at h <;> first | exact ret_mem h | exact fail_mem h
  case call c =>
    unfold aCall at h
    obtain ⟨callee, args, argTypes⟩ := c
    cases callee with
    | value f => simp [touches] at ht
    | invoke r n => simp [touches] at ht
    | builtin b =>
      cases b <;> first
        | (simp [touches] at ht; done)
        | exact aPureT_mem h
        | skip
      · simp only at h
        split at h
        · split at h <;> first | exact ret_mem h | exact aPureT_mem h
        · cases h
      · simp only at h
        split at h
        · split at h <;> first | exact ret_mem h | exact fail_mem h
        · exact aPureT_mem h
      · simp only at h
        split at h
        · split at h <;> first | exact ret_mem h | exact fail_mem h
        · exact aPureT_mem h
/-- What a step of the text's run leaves. -/
theorem stepD_shape {l : List Rec} {i : Nat} {o : Oper} {s s' : St} {r : Rec} (h : (stepD C call ops B c0 l i o s).run = some (s', r)) :
    ∃ v M1, s' = ⟨putT s.tmps o.dst v, mrg r.W 0 s.mem M1⟩ ∧ r.lo = s.mem.length ∧ r.hi = M1.length ∧ s.mem.length ≤ M1.length ∧ ∀ n ∈ r.W, n < s.mem.length := by
  unfold stepD at h
  have quiet : ∀ v, (⟨putT s.tmps o.dst v, s.mem⟩, ⟨[], [], s.mem.length, s.mem.length⟩) = (s', r) → ∃ v M1, s' = ⟨putT s.tmps o.dst v, mrg r.W 0 s.mem M1⟩ ∧ r.lo = s.mem.length ∧ r.hi = M1.length ∧ s.mem.length ≤ M1.length ∧ ∀ n ∈ r.W, n < s.mem.length := fun v h => by
    simp only [Prod.mk.injEq] at h
    obtain ⟨rfl, rfl⟩ := h
    exact ⟨v, maskGo [] [] 0 s.mem, by simp only [mrg_mask], rfl, (maskGo_length _ _ _ _).symm, by rw [maskGo_length]; exact Nat.le_refl _, fun n hn => by simp at hn⟩
  rcases gate_run h with h | h
  · cases ht : touches o with
    | false =>
      rw [ht] at h
      obtain ⟨x, h1, h2⟩ := T.run_bind_some h
      simp only [T.run_ret, Option.some.injEq] at h2
      exact quiet _ h2
    | true =>
      rw [ht] at h
      simp only [cond_true] at h
      obtain ⟨x, h1, h2⟩ := T.run_bind_some h
      obtain ⟨hb, h3⟩ := T.guard_some h2
      simp only [Bool.and_eq_true, decide_eq_true_eq, List.all_eq_true] at hb
      simp only [T.run_ret, Option.some.injEq, Prod.mk.injEq] at h3
      obtain ⟨rfl, rfl⟩ := h3
      exact ⟨x.1, x.2, rfl, rfl, rfl, hb.1, fun n hn => hb.2 n hn⟩
  · simp only [T.run_ret, Option.some.injEq] at h
    exact quiet _ h
theorem evD_txt : ∀ (l : List Oper) (i : Nat) (s : St) (r0 : List Rec) (sf : St) (rf : List Rec), (evD C call ops B c0 l i s r0).run = some (sf, rf) → r0.length = i →
    ∃ (S : Nat → St) (rs : Nat → Rec), S i = s ∧ S (i + l.length) = sf ∧ rf.length = i + l.length ∧ (∀ j, j < i → rf.getD j default = r0.getD j default) ∧ (∀ j, i ≤ j → j < i + l.length → rf.getD j default = rs j) ∧
      ∀ j o, l[j]? = some o → ∃ rl, (stepD C call ops B c0 rl (i + j) o (S (i + j))).run = some (S (i + j + 1), rs (i + j))
  | [], i, s, r0, sf, rf, h, hl => by
    have h : some (s, r0) = some (sf, rf) := h
    simp only [Option.some.injEq, Prod.mk.injEq] at h
    obtain ⟨rfl, rfl⟩ := h
    exact ⟨fun _ => s, fun _ => default, rfl, rfl, by simpa using hl, fun _ _ => rfl, fun j h1 h2 => by simp at h2; omega, fun j o ho => by simp at ho⟩
  | o :: l, i, s, r0, sf, rf, h, hl => by
    obtain ⟨⟨s1, r1⟩, h1, h2⟩ := T.run_bind_some (t := stepD C call ops B c0 r0 i o s) (f := fun r : St × Rec => evD C call ops B c0 l (i + 1) r.1 (r0 ++ [r.2])) h
    obtain ⟨S, rs, hS, hSf, hrl, hold, hrs, hstep⟩ := evD_txt l (i + 1) s1 (r0 ++ [r1]) sf rf h2 (by simp [hl])
    refine ⟨fun m => if m = i then s else S m, fun m => if m = i then r1 else rs m, if_pos rfl, ?_, ?_, ?_, ?_, ?_⟩
    · show (if i + (o :: l).length = i then s else S (i + (o :: l).length)) = sf
      rw [if_neg (by simp)]
      rw [← hSf]; congr 1; simp; omega
    · rw [hrl]; simp; omega
    · intro j hj
      rw [hold j (by omega)]
      simp [List.getD, List.getElem?_append_left (show j < r0.length by omega)]
    · intro j h3 h4
      show _ = if j = i then r1 else rs j
      by_cases hji : j = i
      · subst hji
        rw [hold j (by omega), if_pos rfl]
        simp [List.getD, ← hl]
      · rw [if_neg hji]
        exact hrs j (by omega) (by simp at h4; omega)
    · intro j x hx
      cases j with
      | zero =>
        simp only [List.getElem?_cons_zero, Option.some.injEq] at hx
        subst hx
        refine ⟨r0, ?_⟩
        show (stepD C call ops B c0 r0 i o (if i = i then s else S i)).run = some (if i + 1 = i then s else S (i + 1), if i = i then r1 else rs i)
        rw [if_pos rfl, if_neg (by omega), if_pos rfl, hS]
        exact h1
      | succ j =>
        simp only [List.getElem?_cons_succ] at hx
        obtain ⟨rl, h3⟩ := hstep j x hx
        refine ⟨rl, ?_⟩
        show (stepD C call ops B c0 rl (i + (j + 1)) x (if i + (j + 1) = i then s else S (i + (j + 1)))).run = some (if i + (j + 1) + 1 = i then s else S (i + (j + 1) + 1), if i + (j + 1) = i then r1 else rs (i + (j + 1)))
        rw [if_neg (by omega), if_neg (by omega), if_neg (by omega)]
        rw [show i + (j + 1) = i + 1 + j by omega]
        exact h3
theorem txt_of {S : Nat → St} {rs : Nat → Rec} (h : ∀ j o, ops[j]? = some o → ∃ rl, (stepD C call ops B c0 rl j o (S j)).run = some (S (j + 1), rs j)) : Txt ops S rs := by
  have key : ∀ i, i < ops.size → ∃ o, ops[i]? = some o ∧ ∃ v M1, S (i + 1) = ⟨putT (S i).tmps o.dst v, mrg (rs i).W 0 (S i).mem M1⟩ ∧ (rs i).lo = (S i).mem.length ∧ (rs i).hi = M1.length ∧ (S i).mem.length ≤ M1.length ∧ ∀ n ∈ (rs i).W, n < (S i).mem.length := fun i hi => by
    obtain ⟨rl, h1⟩ := h i ops[i] (Array.getElem?_eq_getElem hi)
    exact ⟨_, Array.getElem?_eq_getElem hi, stepD_shape h1⟩
  constructor
  · intro i hi
    obtain ⟨o, ho, v, M1, h1, h2, h3, h4, h5⟩ := key i hi
    exact h2
  · intro i hi
    obtain ⟨o, ho, v, M1, h1, h2, h3, h4, h5⟩ := key i hi
    rw [h1, h3]
    exact (mrg_length _ _ _ _ h4).symm
  · intro i hi
    obtain ⟨o, ho, v, M1, h1, h2, h3, h4, h5⟩ := key i hi
    rw [h1]
    show _ ≤ (mrg _ _ _ _).length
    rw [mrg_length _ _ _ _ h4]
    exact h4
  · intro i n hi hn
    obtain ⟨o, ho, v, M1, h1, h2, h3, h4, h5⟩ := key i hi
    rw [h2]
    exact h5 n hn
  · intro i hi
    obtain ⟨o, ho, v, M1, h1, h2, h3, h4, h5⟩ := key i hi
    rw [h1]
    cases hd : o.dst with
    | none => rfl
    | some d => exact Tm.put_n _ _ _
  · intro i o t ho hd
    have hi : i < ops.size := (Array.getElem?_eq_some_iff.1 ho).1
    obtain ⟨o', ho', v, M1, h1, _⟩ := key i hi
    rw [ho] at ho'
    injection ho' with ho'
    subst ho'
    rw [h1]
    cases hdd : o.dst with
    | none => rfl
    | some d =>
      by_cases hdt : d = t
      · subst hdt
        rcases hd with hd | hd
        · exact (hd hdd).elim
        · show ((S i).tmps.put d v).get d = _
          rw [(S i).tmps.get_out v hd]
      · exact (S i).tmps.get_ne v (fun e => hdt e.symm)
  · intro i n hi hn hr
    obtain ⟨o, ho, v, M1, h1, h2, h3, h4, h5⟩ := key i hi
    rw [h1]
    simp only
    rw [mrg_get _ _ _ _ h4, Nat.zero_add]
    rcases hr with hr | hr
    · rw [if_pos (by omega), if_neg (by simpa using hn)]
    · rw [if_neg (by omega), List.getElem?_eq_none (by omega), List.getElem?_eq_none (by omega)]
theorem quiet_apart {x y : Rec} (hx : x.quiet = true) (hy : y.quiet = true) : x.apart y = true := by
  simp only [Rec.quiet, Bool.and_eq_true, List.isEmpty_iff] at hx hy
  have h1 : x.lo = x.hi := Nat.eq_of_beq_eq_true hx.2
  simp only [Rec.apart, hx.1, hy.1, List.all_nil, Bool.true_and, List.append_nil, List.all_eq_true, Bool.or_eq_true, decide_eq_true_eq]
  intro n _
  omega
theorem dynOk_spec {B : List Nat} {rs : List Rec} : ∀ (l : List Rec) (i : Nat), dynOkGo B rs i l = true → ∀ k x, l[k]? = some x → x.quiet = true ∨ ∀ j, j < rs.length → j ≠ i + k → before B (i + k) j = true ∨ before B j (i + k) = true ∨ (if i + k < j then x.apart (rs.getD j default) else (rs.getD j default).apart x) = true
  | [], _, _, k, x, hx => by simp at hx
  | y :: l, i, h, k, x, hx => by
    simp only [dynOkGo, Bool.and_eq_true] at h
    cases k with
    | zero =>
      simp only [List.getElem?_cons_zero, Option.some.injEq] at hx
      subst hx
      have h1 := h.1
      simp only [Bool.or_eq_true, List.all_eq_true, List.mem_range] at h1
      rcases h1 with h1 | h1
      · exact .inl h1
      · refine .inr fun j hj hne => ?_
        rcases h1 j hj with ((h2 | h2) | h2) | h2
        · exact (hne (by have := Nat.eq_of_beq_eq_true h2; omega)).elim
        · exact .inl h2
        · exact .inr (.inl h2)
        · refine .inr (.inr ?_)
          by_cases hij : i + 0 < j
          · rw [if_pos hij]
            rw [if_pos (by simpa [Nat.blt_eq] using hij)] at h2
            exact h2
          · rw [if_neg hij]
            rw [if_neg (by simpa [Nat.blt_eq] using hij)] at h2
            exact h2
    | succ k =>
      simp only [List.getElem?_cons_succ] at hx
      have := dynOk_spec l (i + 1) h.2 k x hx
      rwa [show i + 1 + k = i + (k + 1) by omega] at this
theorem pairs_of {rs : Nat → Rec} {rf : List Rec} (hlow : ∀ j i, i < j → ¬ before B j i = true) (hst : staticOk ops B = true) (hdy : dynOk B rf = true) (hl : rf.length = ops.size) (hr : ∀ j, j < ops.size → rf.getD j default = rs j) : Pairs ops B rs := by
  simp only [staticOk, List.all_eq_true, List.mem_range, Bool.and_eq_true, Bool.or_eq_true] at hst
  have hspec := dynOk_spec rf 0 hdy
  constructor
  · intro i j x y hij hx hy
    have hi : i < ops.size := (Array.getElem?_eq_some_iff.1 hx).1
    have hj : j < ops.size := (Array.getElem?_eq_some_iff.1 hy).1
    have := (hst j hj).2 i hij
    rwa [Array.getD_eq_getD_getElem?, Array.getD_eq_getD_getElem?, hx, hy] at this
  · intro i j hij hj
    have hgi : rf[i]? = some (rs i) := by rw [← hr i (by omega)]; simp [List.getD, List.getElem?_eq_getElem (show i < rf.length by omega)]
    have hgj : rf[j]? = some (rs j) := by rw [← hr j hj]; simp [List.getD, List.getElem?_eq_getElem (show j < rf.length by omega)]
    rcases hspec i _ hgi with h1 | h1
    · rcases hspec j _ hgj with h2 | h2
      · exact .inr (quiet_apart h1 h2)
      · rcases h2 i (by omega) (by omega) with h3 | h3 | h3
        · rw [Nat.zero_add] at h3
          exact (hlow j i hij h3).elim
        · rw [Nat.zero_add] at h3
          exact .inl h3
        · rw [if_neg (by omega), hr i (by omega)] at h3
          exact .inr h3
    · rcases h1 j (by omega) (by omega) with h3 | h3 | h3
      · rw [Nat.zero_add] at h3
        exact .inl h3
      · rw [Nat.zero_add] at h3
        exact (hlow j i hij h3).elim
      · rw [if_pos (by omega), hr j hj] at h3
        exact .inr h3
end

section
variable {C : Cfg} {call : Call} {ops : Array Oper} {E0 E : Env} {M0 : Mem} {w0 w : World} {d0 : List Deferred} {s : St} {a : Act} {S : Nat → St} {rs : Nat → Rec}

theorem Inv.start (hT : Txt ops S rs) (hv : TR E (S 0).tmps a.tmps) (hR : R E (S 0).mem w) : Inv ops S rs E w a.defers (fun _ => False) E a w := by
  have hEc : ∀ m, m ≤ ops.size → E.le (cutE E (S m).mem.length) := fun m hm n e he => by
    rw [cutE_lt (Nat.lt_of_lt_of_le (hR.le he) (hT.mono' (Nat.zero_le m) hm))]
    exact he
  have hmem : ∀ {m n : Nat}, ConsN ops rs (fun _ => False) m n → (S m).mem[n]? = (S 0).mem[n]? := fun {m n} hc =>
    hT.mem_to (Nat.zero_le m) hc.1 fun j _ hj hw => ((hc.2 j (by have := hc.1; omega) hw).1 hj).elim
  constructor
  · exact hv.n
  · intro t m hc
    rw [hT.tmp_to (Nat.zero_le m) hc.1 fun j o _ hj ho hd => ((hc.2 j o ho hd).1 hj).elim]
    exact (hv.get t).mono (hEc m hc.1)
  · intro t ht
    have := hv.get t
    rw [show a.tmps.getD t undef = undef by simp [Array.getD_eq_getD_getElem?, Array.getElem?_eq_none (show a.tmps.size ≤ t by rw [hv.n]; omega)]] at this
    exact this.mono (hEc 0 (Nat.zero_le _))
  · intro n m ab hc hn
    rw [hmem hc] at hn
    obtain ⟨e, he, hb⟩ := hR.live n ab hn
    exact ⟨e, he, hb.keep (hEc m hc.1) rfl⟩
  · intro n m ab hc hn
    rw [hmem hc] at hn
    exact ⟨fun _ => ⟨ab, hn, rfl⟩, fun h => by have := get_lt hn; omega⟩
  · intro n n' m m' ab ab' e e' hc hc' hn hn' hab hne he he'
    rw [hmem hc] at hn
    rw [hmem hc'] at hn'
    exact hR.inj n n' ab ab' e e' hn hn' hab hne he he'
  · exact hR.dom
  · exact fun n e he => .inl (hR.le he)
  · exact fun _ _ => rfl
  · rfl
  · rfl
  · rfl
  · exact Nat.le_refl _
  · exact fun _ _ _ => rfl
  · intro n m ab e hc hn hab he
    rw [hmem hc] at hn
    exact .inr ⟨n, ab, hn, hab, e, he, rfl⟩
  · rfl
  · exact hR.inv
  · exact hR.gle
  · intro n m ab e hc hn hab he
    rw [hmem hc] at hn
    exact hR.base n ab e hn hab he
theorem Inv.done {L : Nat → Prop} {E1 : Env} {w1 : World} (hT : Txt ops S rs) (hI : Inv ops S rs E w d0 L E1 a w1) (hL : ∀ j, j < ops.size → L j) (hR : R E (S 0).mem w) : TR E1 (S ops.size).tmps a.tmps ∧ Step E (S 0).mem w E1 (S ops.size).mem w1 := by
  have hcN : ∀ n, ConsN ops rs L ops.size n := fun n => ⟨Nat.le_refl _, fun j hj _ => ⟨fun _ => hL j hj, fun _ => hj⟩⟩
  have hcT : ∀ t, ConsT ops L ops.size t := fun t => ⟨Nat.le_refl _, fun j o ho _ => by
    have hj : j < ops.size := (Array.getElem?_eq_some_iff.1 ho).1
    exact ⟨fun _ => hL j hj, fun _ => hj⟩⟩
  have h0 := hT.mono' (Nat.zero_le ops.size) (Nat.le_refl _)
  have hfresh : ∀ n, (S ops.size).mem.length ≤ n → E1 n = none := fun n hn => by
    cases he : E1 n with
    | none => rfl
    | some e =>
      rcases hI.Z n e he with h | ⟨j, h1, _, h2, h3⟩
      · omega
      · have := hT.mono' (show j + 1 ≤ ops.size by omega) (Nat.le_refl _)
        omega
  have hle : E.le E1 := fun n e he => by rw [hI.O n (hR.le he)]; exact he
  refine ⟨⟨by rw [hT.n0 _ (Nat.le_refl _)]; exact hI.tl, fun i => (hI.T i ops.size (hcT i)).mono (cutE_le' _ _)⟩, hle, fun n hn => hI.O n hn, h0, fun n ab hn => ?_, ⟨hfresh, hI.D, fun n ab hn => ?_, fun n m ab ab' e e' hn hm hab hne he he' => ?_, hI.inv, hI.gle, fun n ab e hn hab he => hI.bse n ops.size ab e (hcN n) hn hab he⟩, hI.os, hI.tape, hI.output, hI.size, hI.block, fun n ab e hn hab he => ?_⟩
  · have := hI.Kd n ops.size ab (hcN n) hn
    exact ⟨fun h => let ⟨x, h1, h2⟩ := this.1 h; ⟨x, h1, h2⟩, this.2⟩
  · obtain ⟨e, he, hb⟩ := hI.N n ops.size ab (hcN n) hn
    exact ⟨e, he, hb.keep (cutE_le' _ _) rfl⟩
  · exact hI.J n m ops.size ops.size ab ab' e e' (hcN n) (hcN m) hn hm hab hne he he'
  · exact hI.org n ops.size ab e (hcN n) hn hab he

theorem stepD_real (hC : C.Ok) (hcall : SoundCall C.P call) {B : List Nat} {c0 : Nat} {L : Nat → Prop} {i : Nat} {o : Oper} {rl : List Rec} {Q : Exit → Act → World → Prop} {K : Act → World → Prop} (hT : Txt ops S rs) (hP : Pairs ops B rs) (ho : ops[i]? = some o)
    (hrun : (stepD C call ops B c0 rl i o (S i)).run = some (S (i + 1), rs i)) (hI : Inv ops S rs E0 w0 d0 L E a w) (hLi : ¬ L i) (hdn : ∀ j, j < i → before B j i = true → L j) (hup : ∀ j, j < ops.size → before B i j = true → ¬ L j)
    (hK : ∀ E' a' w', Inv ops S rs E0 w0 d0 (fun j => L j ∨ j = i) E' a' w' → K a' w') : wpOp C.P ops Q i K a w := by
  have hi : i < ops.size := (Array.getElem?_eq_some_iff.1 ho).1
  have hsat := T.sat_of_run (Q := fun y => y = (S (i + 1), rs i)) hrun rfl
  have htl : ∀ t, t ∈ o.looksAt ops → VR (cutE E (S i).mem.length) ((S i).tmps.get t) (a.tmps.getD t undef) := fun t ht => hI.T t i (consT_looks hP ho hLi hdn hup ht)
  have hR := hI.foot hT hP hi hLi hdn hup
  unfold wpOp
  simp only [ho]
  unfold stepD at hsat
  have hg := gate_sound (E := cutE E (S i).mem.length) (a := a) hsat (fun j want d hgd hd => htl d (by simp [Oper.looksAt, hgd, hd]))
  have hops : ∀ y ∈ o.op.operands, VR (cutE E (S i).mem.length) ((S i).eval y) (a.eval y) := fun y hy => by
    cases y with
    | tmp t => exact htl t (by simp only [Oper.looksAt, List.mem_append, List.mem_filterMap]; exact .inl ⟨.tmp t, by simpa using hy, rfl⟩)
    | const v => exact VR.of _ v
    | global g => simp [St.eval, Act.eval, VR]
    | func f => simp only [St.eval, Act.eval, VR]; exact ⟨_, _, _, rfl, rfl, by simp [VRs], by simp [VRs]⟩
  rcases hg with ⟨hw, h⟩ | ⟨hw, h⟩
  · rw [if_pos hw]
    have key : ∃ x, (aOp C call (S i).eval o (maskGo (rs i).F (rs i).W 0 (S i).mem)).run = some x ∧ S (i + 1) = ⟨putT (S i).tmps o.dst x.1, mrg (rs i).W 0 (S i).mem x.2⟩ := by
      cases ht : touches o with
      | false =>
        rw [ht] at h
        simp only [cond_false] at h
        rw [T.sat_bind] at h
        obtain ⟨x, hx1, hx2⟩ := T.run_of_sat h
        simp only [T.sat, Prod.mk.injEq] at hx2
        obtain ⟨hS, hrs⟩ := hx2
        have hF : ([] : List Nat) = (rs i).F := by rw [← hrs]
        have hW : ([] : List Nat) = (rs i).W := by rw [← hrs]
        have hm := aOp_mem ht hx1
        refine ⟨x, by rw [← hF, ← hW]; exact hx1, ?_⟩
        rw [hm, ← hW, mrg_mask]
        exact hS.symm
      | true =>
        rw [ht] at h
        simp only [cond_true] at h
        rw [T.sat_bind] at h
        obtain ⟨x, hx1, hx2⟩ := T.run_of_sat h
        obtain ⟨hlen, hx2⟩ := T.sat_guard hx2
        simp only [T.sat, Prod.mk.injEq] at hx2
        obtain ⟨hS, hrs⟩ := hx2
        have hF : (footD ops.toList B c0 rl i o (S i)).1 = (rs i).F := by rw [← hrs]
        have hW : (footD ops.toList B c0 rl i o (S i)).2 = (rs i).W := by rw [← hrs]
        rw [hF, hW] at hx1
        rw [hW] at hS
        exact ⟨x, hx1, hS.symm⟩
    obtain ⟨x, hx1, hS⟩ := key
    have hA := aOp_sound hC hcall (T.sat_of_run (Q := fun y => y = x) hx1 rfl) (E := cutE E (S i).mem.length) (ρr := a.eval) (w := w) hops hR
    have fin : ∀ (u : Value) (w' : World), (∃ E' v M', (v, M') = x ∧ VR E' v u ∧ Step (cutE E (S i).mem.length) (maskGo (rs i).F (rs i).W 0 (S i).mem) w E' M' w') → K (a.put o.dst u) w' := fun u w' ⟨E', v, M', hk, hvu, hs'⟩ => by
      subst hk
      obtain ⟨E2, h2⟩ := hI.next hT hP ho hLi hdn hup hs' hvu hS
      exact hK E2 _ _ h2
    refine .inl ?_
    unfold Oper.wp
    generalize (execOp a.eval o).run C.P w = r at hA ⊢
    cases r with
    | halt x w' => exact hA.elim
    | ok x w' =>
      cases x <;> first | exact hA.elim | skip
      case value u => exact fin u w' hA
      case skip => exact fin undef w' hA
      case enter f args =>
        refine hA.mono ?_
        rintro e w'' ⟨u, rfl, hh⟩
        exact fin u w'' hh
  · rw [if_neg (by rw [hw]; simp)]
    simp only [T.sat, Prod.mk.injEq] at h
    obtain ⟨hS, hrs⟩ := h
    have hF : ([] : List Nat) = (rs i).F := by rw [← hrs]
    have hW : ([] : List Nat) = (rs i).W := by rw [← hrs]
    obtain ⟨E2, h2⟩ := hI.next hT hP ho hLi hdn hup (Step.refl hR) (v := .v undef) (u := undef) (by simp [VR]) (by rw [← hF, ← hW, mrg_mask]; exact hS.symm)
    exact hK E2 _ _ h2
end
end Go.Proofs.YtnpggmdpokcakaaGreatDoor.AM
namespace Go.Proofs.YtnpggmdpokcakaaGreatDoor.AM
open Go.RowKit
variable [Base]
section
variable {C : Cfg} {call : Call} {ops : Array Oper} {E0 : Env} {M0 : Mem} {w0 w : World} {d0 : List Deferred} {s : St} {a : Act}

def listedP (listed : Array Bool) (j : Nat) : Prop := listed.getD j false = true
theorem listed_set {listed : Array Bool} {i : Nat} (hi : i < listed.size) (j : Nat) : listedP (listed.setIfInBounds i true) j ↔ listedP listed j ∨ j = i := by
  unfold listedP
  rw [Array.getD_eq_getD_getElem?, Array.getD_eq_getD_getElem?]
  by_cases h : i = j
  · subst h; simp [hi]
  · rw [Array.getElem?_setIfInBounds_ne h]
    constructor
    · exact .inl
    · rintro (h' | h')
      · exact h'
      · exact (h h'.symm).elim
theorem filter_le {p q : Nat → Bool} (hpq : ∀ x, q x = true → p x = true) : ∀ (l : List Nat), (l.filter q).length ≤ (l.filter p).length
  | [] => Nat.le_refl _
  | x :: l => by
    have ih := filter_le hpq l
    simp only [List.filter_cons]
    cases hq : q x with
    | true => rw [hpq x hq]; simpa using ih
    | false => cases p x <;> simp <;> omega
theorem filter_lt {p q : Nat → Bool} {i : Nat} (hpq : ∀ x, q x = true → p x = true) : ∀ {l : List Nat}, i ∈ l → p i = true → q i = false → (l.filter q).length < (l.filter p).length
  | [], h, _, _ => by cases h
  | x :: l, h, hp, hq => by
    simp only [List.filter_cons]
    rcases List.mem_cons.1 h with rfl | h
    · rw [hp, hq]
      have := filter_le hpq l
      simpa using Nat.lt_succ_of_le this
    · have ih := filter_lt hpq h hp hq
      cases hqx : q x with
      | true => rw [hpq x hqx]; simpa using ih
      | false => cases p x <;> simp <;> omega
theorem wpAny_inv (hC : C.Ok) (hcall : SoundCall C.P call) {Bf : List Nat} {S : Nat → St} {rs : Nat → Rec} {E : Env} {Q : Exit → Act → World → Prop} (hT : Txt ops S rs) (hP : Pairs ops Bf rs) (hback : ∀ j o, ops[j]? = some o → Oper.onlyBack j o = true) (hBf : Bf = befs ops.toList [])
    (hrun : ∀ j o, ops[j]? = some o → ∃ c0 rl, (stepD C call ops Bf c0 rl j o (S j)).run = some (S (j + 1), rs j))
    (hQ : ∀ L E' a' w', Inv ops S rs E w d0 L E' a' w' → (∀ j, j < ops.size → L j) → Q .normal a' w') :
    ∀ (fuel : Nat) (listed : Array Bool) (a' : Act) (w' : World) (E' : Env), listed.size = ops.size → ((List.range ops.size).filter fun j => !(listed.getD j false)).length ≤ fuel →
      (∀ j o, ops[j]? = some o → listedP listed j → ∀ e ∈ o.after, Region.binds .any e = true → listedP listed e.on) → Inv ops S rs E w d0 (listedP listed) E' a' w' → wpAny C.P .any ops Q fuel listed a' w' := by
  have hready : ∀ (listed : Array Bool) (j : Nat), listed.size = ops.size → j < ops.size → ¬ listedP listed j → ∃ k, k ∈ Region.ready .any ops listed := by
    intro listed j hsz
    induction j using Nat.strongRecOn with
    | _ j ih =>
      intro hj hn
      by_cases hall : ∀ e ∈ (ops[j]'hj).after, Region.binds .any e = true → listedP listed e.on
      · refine ⟨j, mem_ready.2 ⟨?_, ops[j], Array.getElem?_eq_getElem hj, hall⟩⟩
        have hlt : j < listed.size := by omega
        unfold listedP at hn
        rw [Array.getD_eq_getD_getElem?, Array.getElem?_eq_getElem hlt] at hn ⊢
        simpa using hn
      · simp only [Classical.not_forall] at hall
        obtain ⟨e, he, hb, hnl⟩ := hall
        have hlt : e.on < j := by
          have := hback j _ (Array.getElem?_eq_getElem hj)
          simp only [Oper.onlyBack, Array.all_eq_true_iff_forall_mem] at this
          have := this e he
          rw [hb] at this
          simpa using this
        exact ih e.on hlt (by omega) hnl
  intro fuel
  induction fuel with
  | zero =>
    intro listed a' w' E' hsz hcount hcl hI
    have hall : ∀ j, j < ops.size → listedP listed j := fun j hj => by
      have hn := List.length_eq_zero_iff.1 (Nat.le_zero.1 hcount)
      rw [List.filter_eq_nil_iff] at hn
      have := hn j (List.mem_range.2 hj)
      simpa [listedP] using this
    refine ⟨?_, hQ _ E' a' w' hI hall⟩
    cases hr : Region.ready .any ops listed with
    | nil => rfl
    | cons k l =>
      have hk : k ∈ Region.ready .any ops listed := by rw [hr]; exact List.mem_cons_self
      obtain ⟨h1, o, ho, _⟩ := mem_ready.1 hk
      have hk' : k < ops.size := (Array.getElem?_eq_some_iff.1 ho).1
      have := hall k hk'
      unfold listedP at this
      have hlt : k < listed.size := by omega
      rw [Array.getD_eq_getD_getElem?, Array.getElem?_eq_getElem hlt] at h1 this
      simp at h1 this
      rw [h1] at this; cases this
  | succ fuel ih =>
    intro listed a' w' E' hsz hcount hcl hI
    refine ⟨fun hnil => hQ _ E' a' w' hI fun j hj => ?_, fun i hi => ?_⟩
    · by_cases h : listedP listed j
      · exact h
      · obtain ⟨k, hk⟩ := hready listed j hsz hj h
        rw [hnil] at hk; cases hk
    · obtain ⟨h1, o, ho, hafter⟩ := mem_ready.1 hi
      have hi' : i < ops.size := (Array.getElem?_eq_some_iff.1 ho).1
      have hilt : i < listed.size := by omega
      have hLi : ¬ listedP listed i := by
        unfold listedP
        rw [Array.getD_eq_getD_getElem?, Array.getElem?_eq_getElem hilt] at h1 ⊢
        simp at h1 ⊢
        exact h1
      have hafter' : ∀ e ∈ o.after, Region.binds .any e = true → listedP listed e.on := fun e he hb => hafter e he hb
      have hclosed : ∀ (L : Nat → Prop), (∀ j o, ops[j]? = some o → L j → ∀ e ∈ o.after, Region.binds .any e = true → L e.on) → ∀ j k, k < ops.size → L k → before Bf j k = true → L j := fun L hL j k hk hLk hb => by
        subst hBf
        refine befs_closed (L := L) (all := ops.toList) (fun i o ho => hL i o (by simpa using ho)) ops.toList [] (fun j => by simp) (fun i j h => by simp at h) k j (by simpa using hk) hLk hb
      have hup : ∀ j, j < ops.size → before Bf i j = true → ¬ listedP listed j := fun j hj hb hL => hLi (hclosed _ hcl i j hj hL hb)
      have hdn : ∀ j, j < i → before Bf j i = true → listedP listed j := fun j hj hb => by
        have hc := hclosed (fun k => listedP listed k ∨ k = i) (fun j o' ho' hL e he hbe => by
          rcases hL with hL | rfl
          · exact .inl (hcl j o' ho' hL e he hbe)
          · rw [ho] at ho'
            injection ho' with ho'
            subst ho'
            exact .inl (hafter' e he hbe)) j i hi' (.inr rfl) hb
        exact hc.resolve_right fun e => by omega
      obtain ⟨c0, rl, hr⟩ := hrun i o ho
      refine stepD_real hC hcall hT hP ho hr hI hLi hdn hup fun E2 a2 w2 hI2 => ?_
      have hL2 : (fun j => listedP listed j ∨ j = i) = listedP (listed.setIfInBounds i true) := funext fun j => propext (listed_set hilt j).symm
      rw [hL2] at hI2
      refine ih _ a2 w2 E2 (by simpa using hsz) ?_ ?_ hI2
      · refine Nat.le_of_lt_succ (Nat.lt_of_lt_of_le (filter_lt (i := i) (fun x hx => ?_) (List.mem_range.2 hi') ?_ ?_) hcount)
        · simp only [Bool.not_eq_true'] at hx ⊢
          cases hq : listed.getD x false with
          | false => rfl
          | true => rw [show (listed.setIfInBounds i true).getD x false = true from (listed_set hilt x).2 (.inl hq)] at hx; cases hx
        · simp only [Bool.not_eq_true']
          cases hq : listed.getD i false with
          | false => rfl
          | true => exact (hLi hq).elim
        · simp only [Bool.not_eq_false']
          exact (listed_set hilt i).2 (.inr rfl)
      · intro j o' ho' hL e he hbe
        rw [listed_set hilt] at hL ⊢
        rcases hL with hL | rfl
        · exact .inl (hcl j o' ho' hL e he hbe)
        · rw [ho] at ho'
          injection ho' with ho'
          subst ho'
          exact .inl (hafter' e he hbe)
theorem befs_low (hst : staticOk ops (befs ops.toList []) = true) : ∀ j i, i < j → ¬ before (befs ops.toList []) j i = true := fun j i hij hb => by
  have hback : ∀ j o, ops[j]? = some o → Oper.onlyBack j o = true := fun j o ho => by
    have hj : j < ops.size := (Array.getElem?_eq_some_iff.1 ho).1
    simp only [staticOk, List.all_eq_true, List.mem_range, Bool.and_eq_true] at hst
    have := (hst j hj).1
    rwa [Array.getD_eq_getD_getElem?, ho] at this
  rcases Nat.lt_or_ge i ops.size with hi | hi
  · have := befs_closed (L := fun q => q ≤ i) (all := ops.toList) (fun k o ho hL e he hbe => by
      have hb2 := hback k o (by simpa using ho)
      simp only [Oper.onlyBack, Array.all_eq_true_iff_forall_mem] at hb2
      have hb3 := hb2 e he
      rw [hbe] at hb3
      simp at hb3
      omega) ops.toList [] (fun j => by simp) (fun i j h => by simp at h) i j (by simpa using hi) (Nat.le_refl _) hb
    omega
  · have hl := befs_length ops.toList []
    simp only [List.length_nil, Array.length_toList, Nat.zero_add] at hl
    unfold before at hb
    rw [List.getD_eq_getElem?_getD, List.getElem?_eq_none (by omega)] at hb
    simp at hb
/-- **A region that draws its order: the text's run serves for every order.** -/
theorem evDraw_wpAny (hC : C.Ok) (hcall : SoundCall C.P call) {K : St → Prop} {Q : Exit → Act → World → Prop} (h : (evDraw C call ops s).sat K) (hI : In E0 M0 w0 d0 s a w) (hQ : ∀ s a w, K s → In E0 M0 w0 d0 s a w → Q .normal a w) :
    wpAny C.P .any ops Q ops.size (Array.replicate ops.size false) a w.drew := by
  obtain ⟨⟨E, hv, hs⟩, hd⟩ := hI
  unfold evDraw at h
  obtain ⟨hst, h⟩ := T.sat_guard h
  rw [T.sat_bind] at h
  obtain ⟨⟨sf, rf⟩, hrun, h⟩ := T.run_of_sat h
  obtain ⟨hdy, hK⟩ := T.sat_guard h
  obtain ⟨S, rs, hS0, hSf, hrl, _, hrs, hstep⟩ := evD_txt ops.toList 0 s [] sf rf hrun rfl
  simp only [Nat.zero_add, Array.length_toList] at hSf hrl hrs hstep
  have hstep' : ∀ j o, ops[j]? = some o → ∃ rl, (stepD C call ops (befs ops.toList []) s.mem.length rl j o (S j)).run = some (S (j + 1), rs j) := fun j o ho => hstep j o (by simpa using ho)
  have hT := txt_of hstep'
  have hP := pairs_of (befs_low hst) hst hdy hrl fun j hj => hrs j (Nat.zero_le j) hj
  have hback : ∀ j o, ops[j]? = some o → Oper.onlyBack j o = true := fun j o ho => by
    have hj : j < ops.size := (Array.getElem?_eq_some_iff.1 ho).1
    simp only [staticOk, List.all_eq_true, List.mem_range, Bool.and_eq_true] at hst
    have := (hst j hj).1
    rwa [Array.getD_eq_getD_getElem?, ho] at this
  have hR : R E (S 0).mem w.drew := by rw [hS0]; exact hs.rel.drew
  have h0 := Inv.start (w := w.drew) (a := a) hT (by rw [hS0]; exact hv) hR
  refine wpAny_inv hC hcall hT hP hback rfl (fun j o ho => let ⟨rl, h⟩ := hstep' j o ho; ⟨_, rl, h⟩) (E := E) (w := w.drew) (d0 := a.defers) (fun L E' a' w' hI' hL => ?_) ops.size _ a w.drew E (by simp) ?_ ?_ ?_
  · obtain ⟨hv', hs'⟩ := hI'.done hT hL hR
    rw [hSf] at hv' hs'
    rw [hS0] at hs'
    exact hQ sf a' w' hK ⟨⟨E', hv', (hs.trans (Step.drew hs.rel)).trans hs'⟩, hI'.defers.trans hd⟩
  · refine Nat.le_trans (List.length_filter_le _ _) (by simp)
  · intro j o ho hL
    unfold listedP at hL
    rw [Array.getD_eq_getD_getElem?] at hL
    simp only [Array.getElem?_replicate] at hL
    split at hL <;> simp at hL
  · have : (fun _ => False : Nat → Prop) = listedP (Array.replicate ops.size false) := funext fun j => propext ⟨False.elim, fun hL => by
      unfold listedP at hL
      rw [Array.getD_eq_getD_getElem?] at hL
      simp only [Array.getElem?_replicate] at hL
      split at hL <;> simp at hL⟩
    rw [← this]
    exact h0
end
end Go.Proofs.YtnpggmdpokcakaaGreatDoor.AM
namespace Go.Proofs.YtnpggmdpokcakaaGreatDoor.AM
open Go.RowKit
variable [Base]
def renFn (f : Nat → Option Nat) : Fn → Option Fn
  | .yield n => (f n).map .yield
  | g => some g
def namesFn : Fn → List Nat
  | .yield n => [n]
  | _ => []
theorem FR.ren {E E' : Env} {f : Nat → Option Nat} (hf : ∀ n m e, f n = some m → E n = some e → E' m = some e) {g g' h : Fn} (k : FR E g h) (hr : renFn f g = some g') : FR E' g' h := by
  cases g <;> simp only [renFn, Option.some.injEq, Option.map_eq_some_iff] at hr
  case yield n =>
    obtain ⟨m, hm, rfl⟩ := hr
    simp only [FR] at k ⊢
    obtain ⟨e, h1, h2⟩ := k
    exact ⟨e, hf _ _ _ hm h1, h2⟩
  all_goals
    subst hr
    exact k
mutual
def AV.ren (f : Nat → Option Nat) : AV → AV
  | .ptr n off => match f n with | some m => .ptr m off | none => .bot
  | .sl n off len cap => match f n with | some m => .sl m off len cap | none => .bot
  | .agg xs => .agg (AV.rens f xs)
  | .tup xs => .tup (AV.rens f xs)
  | .fn g b c => match renFn f g with | some g => .fn g (AV.rens f b) (AV.rens f c) | none => .bot
  | .ifc t x => .ifc t (AV.ren f x)
  | .v x => .v x
  | .bot => .bot
def AV.rens (f : Nat → Option Nat) : List AV → List AV
  | [] => []
  | a :: as => AV.ren f a :: AV.rens f as
end
mutual
def AV.names : AV → List Nat
  | .ptr n _ => [n]
  | .sl n _ _ _ => [n]
  | .agg xs => AV.namess xs
  | .tup xs => AV.namess xs
  | .fn g b c => namesFn g ++ (AV.namess b ++ AV.namess c)
  | .ifc _ x => AV.names x
  | _ => []
def AV.namess : List AV → List Nat
  | [] => []
  | a :: as => AV.names a ++ AV.namess as
end
mutual
theorem VR.ren {E E' : Env} {f : Nat → Option Nat} (hf : ∀ n m e, f n = some m → E n = some e → E' m = some e) : ∀ {a : AV} {u : Value}, VR E a u → VR E' (a.ren f) u
  | .bot, _, _ => by simp [AV.ren, VR]
  | .v x, u, h => by simp only [AV.ren, VR] at h ⊢; exact h
  | .ptr n off, u, h => by
    simp only [VR] at h
    obtain ⟨e, h1, h2⟩ := h
    simp only [AV.ren]
    cases hn : f n with
    | none => simp [VR]
    | some m => simp only [VR]; exact ⟨e, hf n m e hn h1, h2⟩
  | .sl n off len cap, u, h => by
    simp only [VR] at h
    obtain ⟨e, c, h1, h2⟩ := h
    simp only [AV.ren]
    cases hn : f n with
    | none => simp [VR]
    | some m => simp only [VR]; exact ⟨e, c, hf n m e hn h1, h2⟩
  | .agg xs, u, h => by
    simp only [VR] at h
    obtain ⟨cs, h1, h2⟩ := h
    simp only [AV.ren, VR]
    exact ⟨cs, h1, VRs.ren hf h2⟩
  | .tup xs, u, h => by
    simp only [VR] at h
    obtain ⟨cs, h1, h2⟩ := h
    simp only [AV.ren, VR]
    exact ⟨cs, h1, VRs.ren hf h2⟩
  | .fn g b c, u, h => by
    simp only [VR] at h
    obtain ⟨g', bs, cs, h1, h0, h2, h3⟩ := h
    simp only [AV.ren]
    cases hr : renFn f g with
    | none => simp [VR]
    | some g'' => simp only [VR]; exact ⟨g', bs, cs, h1, h0.ren hf hr, VRs.ren hf h2, VRs.ren hf h3⟩
  | .ifc t x, u, h => by
    simp only [VR] at h
    obtain ⟨y, h1, h2⟩ := h
    simp only [AV.ren, VR]
    exact ⟨y, h1, VR.ren hf h2⟩
theorem VRs.ren {E E' : Env} {f : Nat → Option Nat} (hf : ∀ n m e, f n = some m → E n = some e → E' m = some e) : ∀ {as : List AV} {us : List Value}, VRs E as us → VRs E' (AV.rens f as) us
  | [], us, h => by simp only [VRs, AV.rens] at h ⊢; exact h
  | a :: as, us, h => by
    simp only [VRs] at h
    obtain ⟨u, us', h1, h2, h3⟩ := h
    simp only [AV.rens, VRs]
    exact ⟨u, us', h1, VR.ren hf h2, VRs.ren hf h3⟩
end
theorem rens_length (f : Nat → Option Nat) : ∀ (l : List AV), (AV.rens f l).length = l.length
  | [] => rfl
  | a :: l => by simp [AV.rens, rens_length f l]
theorem rens_get (f : Nat → Option Nat) : ∀ (l : List AV) (i : Nat), (AV.rens f l)[i]? = l[i]?.map (AV.ren f)
  | [], i => by simp [AV.rens]
  | a :: l, 0 => by simp [AV.rens]
  | a :: l, i + 1 => by simp [AV.rens, rens_get f l i]

/-! ### What is kept -/
def renB (f : Nat → Option Nat) : Option AB → Option AB
  | none => none
  | some ab => if ab.flat then some ab else if (AV.rens f ab.cells).all AV.one then some { ab with cells := AV.rens f ab.cells } else none
def renF (c0 : Nat) (keep : List Nat) (n : Nat) : Option Nat := if n < c0 then some n else (keep.idxOf? n).map (c0 + ·)
def gcM (c0 : Nat) (keep : List Nat) (M : Mem) : Mem := ((M.take c0) ++ keep.map fun n => (M[n]?).join).map (renB (renF c0 keep))
def gcE (c0 : Nat) (keep : List Nat) (E : Env) : Env := fun m => if m < c0 then E m else (keep[m - c0]?).bind E
def keepOk (c0 : Nat) : List Nat → Bool
  | [] => true
  | n :: l => decide (c0 ≤ n) && !(l.contains n) && keepOk c0 l
theorem keepOk_spec {c0 : Nat} : ∀ {l : List Nat}, keepOk c0 l = true → l.Nodup ∧ ∀ n ∈ l, c0 ≤ n
  | [], _ => ⟨List.nodup_nil, fun n hn => by cases hn⟩
  | n :: l, h => by
    simp only [keepOk, Bool.and_eq_true, decide_eq_true_eq, Bool.not_eq_true'] at h
    obtain ⟨⟨h1, h2⟩, h3⟩ := h
    obtain ⟨h4, h5⟩ := keepOk_spec h3
    refine ⟨List.nodup_cons.2 ⟨by simpa using h2, h4⟩, fun m hm => ?_⟩
    rcases List.mem_cons.1 hm with rfl | hm
    · exact h1
    · exact h5 m hm
section
variable {E0 E : Env} {M0 M : Mem} {w0 w : World}
theorem gc_ren {c0 : Nat} {keep : List Nat} : ∀ n m e, renF c0 keep n = some m → E n = some e → gcE c0 keep E m = some e := fun n m e h he => by
  unfold renF at h
  split at h
  · injection h with h
    subst h
    unfold gcE
    rw [if_pos (by assumption)]
    exact he
  · simp only [Option.map_eq_some_iff] at h
    obtain ⟨i, hi, rfl⟩ := h
    unfold gcE
    rw [if_neg (by omega)]
    have : keep[i]? = some n := by
      obtain ⟨h1, h2⟩ := List.idxOf?_eq_some_iff.1 hi
      obtain ⟨h3, h4⟩ := h2
      rw [List.getElem?_eq_getElem h1]
      simpa using h3
    rw [show c0 + i - c0 = i by omega, this]
    exact he
/-- Which old block a kept one is. -/
theorem gc_get {c0 : Nat} {keep : List Nat} {m : Nat} {x : AB} (hc : c0 ≤ M.length) (h : (gcM c0 keep M)[m]? = some (some x)) :
    ∃ n ab, M[n]? = some (some ab) ∧ renB (renF c0 keep) (some ab) = some x ∧ (m < c0 ∧ n = m ∨ c0 ≤ m ∧ keep[m - c0]? = some n) := by
  unfold gcM at h
  rw [List.getElem?_map] at h
  obtain ⟨y, hy, hyx⟩ := Option.map_eq_some_iff.1 h
  have hlen : (M.take c0).length = c0 := by simp; omega
  rcases Nat.lt_or_ge m c0 with hm | hm
  · rw [List.getElem?_append_left (by omega), List.getElem?_take, if_pos hm] at hy
    cases y with
    | none => cases hyx
    | some ab => exact ⟨m, ab, hy, hyx, .inl ⟨hm, rfl⟩⟩
  · rw [List.getElem?_append_right (by omega), hlen, List.getElem?_map] at hy
    obtain ⟨n, hn, hny⟩ := Option.map_eq_some_iff.1 hy
    cases y with
    | none => cases hyx
    | some ab => exact ⟨n, ab, Mem.at_some (by unfold Mem.at; exact hny), hyx, .inr ⟨hm, hn⟩⟩
theorem renB_own {f : Nat → Option Nat} {ab x : AB} (h : renB f (some ab) = some x) : x.own = ab.own := by
  unfold renB at h
  dsimp only at h
  split at h
  · injection h with h; rw [h]
  · split at h
    · injection h with h; rw [← h]
    · cases h
theorem RB.ren {E E' : Env} {f : Nat → Option Nat} (hf : ∀ n m e, f n = some m → E n = some e → E' m = some e) {ab x : AB} {e : Ent} (h : RB E w ab e) (hx : renB f (some ab) = some x) : RB E' w x e := by
  unfold renB at hx
  dsimp only at hx
  split at hx
  · rename_i hfl
    injection hx with hx
    subst hx
    refine ⟨h.flat, h.one, fun j a ha => ?_, h.own⟩
    obtain ⟨u, h1, h2⟩ := h.cells j a ha
    have hv := h.flat hfl a (List.mem_of_getElem? ha)
    cases a with
    | v y => exact ⟨u, h1, by simp only [VR] at h2 ⊢; exact h2⟩
    | _ => cases hv
  · rename_i hfl
    split at hx
    · rename_i hone
      injection hx with hx
      subst hx
      refine ⟨fun h' => (hfl h').elim, List.all_eq_true.1 hone, fun j a ha => ?_, fun ho => ?_⟩
      · simp only at ha
        rw [rens_get] at ha
        obtain ⟨b, hb, rfl⟩ := Option.map_eq_some_iff.1 ha
        obtain ⟨u, h1, h2⟩ := h.cells j b hb
        exact ⟨u, h1, h2.ren hf⟩
      · obtain ⟨h1, cur, h2, h3, h4, h5⟩ := h.own ho
        exact ⟨h1, cur, h2, h3, h4, by simpa [rens_length] using h5⟩
    · cases hx
theorem gcStep {keep : List Nat} (hR0 : R E0 M0 w0) (h : Step E0 M0 w0 E M w) (hk : keepOk M0.length keep = true) : Step E0 M0 w0 (gcE M0.length keep E) (gcM M0.length keep M) w := by
  obtain ⟨hnd, hge⟩ := keepOk_spec hk
  have hren := gc_ren (E := E) (c0 := M0.length) (keep := keep)
  have hent : ∀ {m n : Nat} {e : Ent}, (m < M0.length ∧ n = m ∨ M0.length ≤ m ∧ keep[m - M0.length]? = some n) → (gcE M0.length keep E m = some e ↔ E n = some e) := fun {m n e} hmn => by
    unfold gcE
    rcases hmn with ⟨h1, rfl⟩ | ⟨h1, h2⟩
    · rw [if_pos h1]
    · rw [if_neg (by omega), h2]; exact Iff.rfl
  have hlen : (gcM M0.length keep M).length = M0.length + keep.length := by
    have := h.len
    simp [gcM]; omega
  refine ⟨fun n e he => ?_, fun n hn => ?_, by omega, fun n x hn => ?_, ⟨fun n hn => ?_, fun n e he => ?_, fun n x hn => ?_, fun n m x y e e' hn hm ho hne he he' => ?_, h.rel.inv, h.rel.gle, fun n x e hn ho he => ?_⟩, h.os, h.tape, h.output, h.size, h.block, fun n x e hn ho he => ?_⟩
  · have h1 := h.le n e he
    rcases Nat.lt_or_ge n M0.length with hn | hn
    · unfold gcE; rw [if_pos hn]; exact h1
    · rw [hR0.fresh n hn] at he; cases he
  · unfold gcE; rw [if_pos hn]; exact h.old n hn
  · obtain ⟨n', ab, h1, h2, h3⟩ := gc_get h.len hn
    have ho := renB_own h2
    rcases h3 with ⟨h3, rfl⟩ | ⟨h3, h4⟩
    · exact ⟨fun hl => let ⟨a, ha, hb⟩ := (h.kind n' ab h1).1 hl; ⟨a, ha, hb.trans ho.symm⟩, fun hl => by omega⟩
    · exact ⟨fun hl => by omega, fun _ => ho.trans ((h.kind n' ab h1).2 (hge n' (List.mem_of_getElem? h4)))⟩
  · unfold gcE
    rw [hlen] at hn
    rw [if_neg (by omega), List.getElem?_eq_none (by omega)]
    rfl
  · unfold gcE at he
    split at he
    · exact h.rel.dom n e he
    · obtain ⟨n', h1, h2⟩ := Option.bind_eq_some_iff.1 he
      exact h.rel.dom n' e h2
  · obtain ⟨n', ab, h1, h2, h3⟩ := gc_get h.len hn
    obtain ⟨e, he, hb⟩ := h.rel.live n' ab h1
    exact ⟨e, (hent h3).2 he, hb.ren hren h2⟩
  · obtain ⟨n', ab, h1, h2, h3⟩ := gc_get h.len hn
    obtain ⟨m', ab', h1', h2', h3'⟩ := gc_get h.len hm
    refine h.rel.inj n' m' ab ab' e e' h1 h1' (by rw [← renB_own h2]; exact ho) (fun hnm => ?_) ((hent h3).1 he) ((hent h3').1 he')
    subst hnm
    rcases h3 with ⟨h3, h4⟩ | ⟨h3, h4⟩ <;> rcases h3' with ⟨h3', h4'⟩ | ⟨h3', h4'⟩
    · exact hne (h4.symm.trans h4')
    · have := hge n' (List.mem_of_getElem? h4'); omega
    · have := hge n' (List.mem_of_getElem? h4); omega
    · have hl1 := (List.getElem?_eq_some_iff.1 h4).1
      have := (List.getElem?_inj hl1 hnd).1 (h4.trans h4'.symm)
      omega
  · obtain ⟨n', ab, h1, h2, h3⟩ := gc_get h.len hn
    exact h.rel.base n' ab e h1 (by rw [← renB_own h2]; exact ho) ((hent h3).1 he)
  · obtain ⟨n', ab, h1, h2, h3⟩ := gc_get h.len hn
    exact h.org n' ab e h1 (by rw [← renB_own h2]; exact ho) ((hent h3).1 he)
/-- What can be reached. -/
def reach (c0 : Nat) (M : Mem) : Nat → List Nat → List Nat → List Nat
  | 0, _, seen => seen
  | _, [], seen => seen
  | k + 1, n :: todo, seen =>
    if n < c0 || seen.contains n then reach c0 M k todo seen
    else reach c0 M k ((match M.at n with | some ab => if ab.flat then [] else AV.namess ab.cells | none => []) ++ todo) (seen ++ [n])
def oldNames (c0 : Nat) (M : Mem) : List Nat := (M.take c0).flatMap fun | some ab => if ab.own && !ab.flat then AV.namess ab.cells else [] | none => []
def keepOf (c0 : Nat) (roots : List AV) (M : Mem) : List Nat :=
  let l := reach c0 M 4096 (AV.namess roots ++ oldNames c0 M) []
  if keepOk c0 l then l else []
theorem keepOf_ok (c0 : Nat) (roots : List AV) (M : Mem) : keepOk c0 (keepOf c0 roots M) = true := by
  unfold keepOf
  dsimp only
  split
  · assumption
  · rfl
end
end Go.Proofs.YtnpggmdpokcakaaGreatDoor.AM
