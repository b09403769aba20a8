/- A small machine, third part: code, functions, ranges over functions, oracles. -/
import Derived.Test.YtnpggmdpokcakaaGreatDoorM1
import Derived.Scope
import Derived.KernelRfl
import Derived.RangeFuncNested
import Derived.RangeFuncLeaves
import Derived.TacticsIn
import Derived.OrdersIn
set_option linter.unusedSectionVars false
set_option linter.unusedVariables false
set_option linter.unusedSimpArgs false
set_option linter.unnecessarySimpa false
namespace Go.Proofs.YtnpggmdpokcakaaGreatDoor.AM
open Go.RowKit
variable [Base]

inductive X where
  | normal
  | exit (id : Nat)
  | goto (l : Nat)
  | ret
def X.real : X → Exit
  | .normal => .normal
  | .exit id => .exit id
  | .goto l => .goto l
  | .ret => .ret
/-- Temporaries that are not live are forgotten, and then what cannot be reached. -/
noncomputable def keepT (old : Tm) (f : Nat → Option Nat) : List Nat → Tm → Tm
  | [], t => t
  | d :: l, t => keepT old f l (t.put d ((old.get d).ren f))
noncomputable def tidy (c0 : Nat) (live : Option (List Nat)) (s : St) : St :=
  match live with
  | none => s
  | some live =>
    let keep := keepOf c0 (live.map s.tmps.get) s.mem
    ⟨keepT s.tmps (renF c0 keep) live (Tm.full .bot s.tmps.n), gcM c0 keep s.mem⟩
def hasLabel (l : Nat) : Code → Bool
  | .seq a b => hasLabel l a || hasLabel l b
  | .label l' => l' == l
  | _ => false
section
variable (rg : Array Oper → Bool → St → T St) (hd : St → St)
noncomputable def loopN (body : St → T (X × St)) : Nat → St → T (X × St)
  | 0, _ => .fail
  | k + 1, s => (body (hd s)).bind fun r =>
    match r.1 with
    | .normal => loopN body k r.2
    | x => .ret (x, r.2)
/-- Round a scope: jumps to its labels. -/
noncomputable def scopeN (from_ : Nat → St → T (X × St)) (c : Code) : Nat → X × St → T (X × St)
  | 0, _ => .fail
  | k + 1, r =>
    match r.1 with
    | .goto l => if hasLabel l c then (from_ l (hd r.2)).bind (scopeN from_ c k) else .ret r
    | _ => .ret r
/-- A piece of code from its beginning, and from a label on. -/
noncomputable def evAll (L : Nat) (c : Code) : (St → T (X × St)) × (Nat → St → T (X × St)) :=
  Code.rec (motive := fun _ => (St → T (X × St)) × (Nat → St → T (X × St)))
    (fun s => .ret (.normal, s), fun _ _ => .fail)
    (fun _ ops draw => (fun s => (rg ops draw s).bind fun s' => .ret (.normal, s'), fun _ _ => .fail))
    (fun a _ A B => (fun s => (A.1 s).bind fun r => X.rec (B.1 r.2) (fun id => .ret (.exit id, r.2)) (fun l => .ret (.goto l, r.2)) (.ret (.ret, r.2)) r.1,
      fun l s => bif hasLabel l a then (A.2 l s).bind fun r => X.rec (B.1 r.2) (fun id => .ret (.exit id, r.2)) (fun l => .ret (.goto l, r.2)) (.ret (.ret, r.2)) r.1 else B.2 l s))
    (fun c _ _ A B => (fun s => match s.eval c with
      | .v (.bool t) => .ite t (A.1 s) (B.1 s)
      | _ => .fail, fun _ _ => .fail))
    (fun id _ A => (fun s => (A.1 s).bind fun r => match r.1 with
      | .exit id' => bif Nat.beq id' id then .ret (.normal, r.2) else .ret (.exit id', r.2)
      | x => .ret (x, r.2), fun _ _ => .fail))
    (fun _ A => (fun s => loopN hd A.1 L s, fun _ _ => .fail))
    (fun _ _ _ _ _ _ => (fun _ => .fail, fun _ _ => .fail))
    (fun id => (fun s => .ret (.exit id, s), fun _ _ => .fail))
    (fun c A => (fun s => (A.1 s).bind (scopeN hd A.2 c L), fun _ _ => .fail))
    (fun l' => (fun s => .ret (.normal, s), fun l s => bif Nat.beq l' l then .ret (.normal, s) else .fail))
    (fun l => (fun s => .ret (.goto l, s), fun _ _ => .fail))
    (fun s => .ret (.ret, s), fun _ _ => .fail)
    (fun _ => (fun _ => .fail, fun _ _ => .fail)) c
noncomputable def evCode (L : Nat) (c : Code) : St → T (X × St) := (evAll rg hd L c).1
noncomputable def evFrom (L : Nat) (l : Nat) (c : Code) : St → T (X × St) := (evAll rg hd L c).2 l
end
theorem hasLabel_iff (l : Nat) : ∀ (c : Code), hasLabel l c = (findLabel c l).isSome
  | .seq a b => by
    rw [hasLabel, findLabel, hasLabel_iff l a, hasLabel_iff l b]
    cases findLabel a l <;> simp
  | .label l' => by
    rw [hasLabel, findLabel]
    cases l' == l <;> rfl
  | .skip | .region .. | .cond .. | .block .. | .loop .. | .rangeFunc .. | .exit .. | .scope .. | .goto .. | .ret | .refuse .. => by simp [hasLabel, findLabel]

section
variable {P : Program} {E0 : Env} {M0 : Mem} {w0 : World} {d0 : List Deferred} {rg : Array Oper → Bool → St → T St} {hd : St → St} {L : Nat}
/-- What a piece of code must answer. -/
def WPs (P : Program) (E0 : Env) (M0 : Mem) (w0 : World) (d0 : List Deferred) (c : Code) (K : X × St → Prop) (a : Act) (w : World) : Prop :=
  ∀ (Q : Exit → Act → World → Prop), (∀ x s a w, K (x, s) → In E0 M0 w0 d0 s a w → Q x.real a w) → c.wp P Q a w
def RgOk (P : Program) (E0 : Env) (M0 : Mem) (w0 : World) (d0 : List Deferred) (rg : Array Oper → Bool → St → T St) : Prop :=
  ∀ (id : Nat) (ops : Array Oper) (draw : Bool) (s : St) (K : St → Prop) (a : Act) (w : World), (rg ops draw s).sat K → In E0 M0 w0 d0 s a w → WPs P E0 M0 w0 d0 (.region id ops draw) (fun r => r.1 = .normal ∧ K r.2) a w
theorem WPs.mono {c : Code} {K K' : X × St → Prop} {a : Act} {w : World} (h : WPs P E0 M0 w0 d0 c K a w) (hk : ∀ r, K r → K' r) : WPs P E0 M0 w0 d0 c K' a w := fun Q hQ => h Q fun x s a w hx hI => hQ x s a w (hk _ hx) hI
theorem seq_sound {A B : Code} {K1 : X × St → Prop} {K : X × St → Prop} {a : Act} {w : World} (hA : WPs P E0 M0 w0 d0 A K1 a w) (hB : ∀ s a w, K1 (.normal, s) → In E0 M0 w0 d0 s a w → WPs P E0 M0 w0 d0 B K a w) (hx : ∀ x s, K1 (x, s) → x ≠ .normal → K (x, s)) : WPs P E0 M0 w0 d0 (.seq A B) K a w := by
  intro Q hQ
  refine wp_seq (hA _ fun x s a' w' hk hI => ?_)
  cases x with
  | normal => exact hB s a' w' hk hI Q hQ
  | exit id => exact hQ (.exit id) s a' w' (hx _ s hk (by simp)) hI
  | goto l => exact hQ (.goto l) s a' w' (hx _ s hk (by simp)) hI
  | ret => exact hQ .ret s a' w' (hx _ s hk (by simp)) hI
/-- Inside a scope: what comes of a piece of it. -/
def InScope (P : Program) (E0 : Env) (M0 : Mem) (w0 : World) (d0 : List Deferred) (body c : Code) (K : X × St → Prop) (a : Act) (w : World) : Prop :=
  ∀ (Q : Exit → Act → World → Prop), (∀ x s a w, K (x, s) → In E0 M0 w0 d0 s a w → Q x.real a w) → ∀ (b : Frame) (k : List Item) (cs : List Frame), ∃ e a' w', Q e a' w' ∧ Arrives P (lone (b.at a (.code c :: .inScope body :: k)) cs w) b k cs e a' w'
theorem loopN_sound {c : Code} {body : St → T (X × St)} (hbody : ∀ (s : St) (K : X × St → Prop) (a : Act) (w : World), (body s).sat K → In E0 M0 w0 d0 s a w → WPs P E0 M0 w0 d0 c K a w) (hhd : ∀ s a w, In E0 M0 w0 d0 s a w → In E0 M0 w0 d0 (hd s) a w) :
    ∀ (n : Nat) (s : St) (K : X × St → Prop) (a : Act) (w : World), (loopN hd body n s).sat K → In E0 M0 w0 d0 s a w → ∀ (Q : Exit → Act → World → Prop), (∀ x s a w, K (x, s) → x ≠ .normal → In E0 M0 w0 d0 s a w → Q x.real a w) →
      ∀ (b : Frame) (k : List Item) (cs : List Frame), ∃ e a' w', Q e a' w' ∧ Arrives P (lone (b.at a (.code c :: .inLoop c :: k)) cs w) b k cs e a' w'
  | 0, s, K, a, w, h, _, _, _, _, _, _ => h.elim
  | n + 1, s, K, a, w, h, hI, Q, hQ, b, k, cs => by
    rw [loopN, T.sat_bind] at h
    obtain ⟨e, a₁, w₁, hq, harr⟩ := hbody (hd s) _ a w h (hhd s a w hI) (fun e a' w' => ∃ x s', e = x.real ∧ In E0 M0 w0 d0 s' a' w' ∧ ((match x with | .normal => loopN hd body n s' | x => .ret (x, s')) : T (X × St)).sat K) (fun x s' a' w' hk hI' => ⟨x, s', rfl, hI', hk⟩) b (.inLoop c :: k) cs
    obtain ⟨x, s', rfl, hI', hk⟩ := hq
    cases x with
    | normal =>
      obtain ⟨e₂, a₂, w₂, hq₂, harr₂⟩ := loopN_sound hbody hhd n s' K a₁ w₁ hk hI' Q hQ b k cs
      exact ⟨e₂, a₂, w₂, hq₂, .of_steps (Steps.trans harr (.one step_inLoop)) harr₂⟩
    | exit id => exact ⟨_, a₁, w₁, hQ _ s' a₁ w₁ hk (by simp) hI', .pass (x := .inLoop c) rfl (fun _ _ => .inl (by simp [X.real])) harr⟩
    | goto l => exact ⟨_, a₁, w₁, hQ _ s' a₁ w₁ hk (by simp) hI', .pass (x := .inLoop c) rfl (fun _ _ => .inl (by simp [X.real])) harr⟩
    | ret => exact ⟨_, a₁, w₁, hQ _ s' a₁ w₁ hk (by simp) hI', .pass (x := .inLoop c) rfl (fun _ _ => .inl (by simp [X.real])) harr⟩
theorem scopeN_sound {c : Code} {from_ : Nat → St → T (X × St)} (hfrom : ∀ (l : Nat) (s : St) (K : X × St → Prop) (a : Act) (w : World), (from_ l s).sat K → In E0 M0 w0 d0 s a w → ∃ r, findLabel c l = some r ∧ WPs P E0 M0 w0 d0 r K a w) (hhd : ∀ s a w, In E0 M0 w0 d0 s a w → In E0 M0 w0 d0 (hd s) a w) :
    ∀ (n : Nat) (K : X × St → Prop) (Q : Exit → Act → World → Prop), (∀ x s a w, K (x, s) → In E0 M0 w0 d0 s a w → Q x.real a w) → ∀ (d : Code) (a : Act) (w : World), WPs P E0 M0 w0 d0 d (fun r => (scopeN hd from_ c n r).sat K) a w →
      ∀ (b : Frame) (k : List Item) (cs : List Frame), ∃ e a' w', Q e a' w' ∧ Arrives P (lone (b.at a (.code d :: .inScope c :: k)) cs w) b k cs e a' w'
  | n, K, Q, hQ, d, a, w, h, b, k, cs => by
    obtain ⟨e, a₁, w₁, hq, harr⟩ := h (fun e a' w' => ∃ x s', e = x.real ∧ In E0 M0 w0 d0 s' a' w' ∧ (scopeN hd from_ c n (x, s')).sat K) (fun x s' a' w' hk hI' => ⟨x, s', rfl, hI', hk⟩) b (.inScope c :: k) cs
    obtain ⟨x, s', rfl, hI', hk⟩ := hq
    cases n with
    | zero => exact hk.elim
    | succ n =>
      cases x with
      | normal => exact ⟨.normal, a₁, w₁, hQ .normal s' a₁ w₁ hk hI', Steps.trans harr (.one step_inScope)⟩
      | exit id => exact ⟨.exit id, a₁, w₁, hQ (.exit id) s' a₁ w₁ hk hI', fun k' hk' => harr k' (by simp [exitTo, hk'])⟩
      | ret => exact ⟨_, a₁, w₁, hQ .ret s' a₁ w₁ hk hI', harr⟩
      | goto l =>
        simp only [scopeN] at hk
        split at hk
        · rw [T.sat_bind] at hk
          obtain ⟨r, hr, hw⟩ := hfrom l (hd s') _ a₁ w₁ hk (hhd _ _ _ hI')
          obtain ⟨e₂, a₂, w₂, hq₂, harr₂⟩ := scopeN_sound hfrom hhd n K Q hQ r a₁ w₁ hw b k cs
          refine ⟨e₂, a₂, w₂, hq₂, .of_steps (harr (.code r :: .inScope c :: k) (by simp [gotoIn, hr])) harr₂⟩
        · rename_i hl
          have hn : findLabel c l = none := by
            rw [hasLabel_iff] at hl
            cases hq : findLabel c l with
            | none => rfl
            | some x => rw [hq] at hl; exact (hl rfl).elim
          exact ⟨.goto l, a₁, w₁, hQ (.goto l) s' a₁ w₁ hk hI', fun k' hk' => harr k' (by simp [gotoIn, hn, hk'])⟩
mutual
theorem evCode_sound (hrg : RgOk P E0 M0 w0 d0 rg) (hhd : ∀ s a w, In E0 M0 w0 d0 s a w → In E0 M0 w0 d0 (hd s) a w) :
    ∀ (c : Code) (s : St) (K : X × St → Prop) (a : Act) (w : World), (evCode rg hd L c s).sat K → In E0 M0 w0 d0 s a w → WPs P E0 M0 w0 d0 c K a w
  | .skip, s, K, a, w, h, hI => fun Q hQ => wp_skip (hQ .normal s a w h hI)
  | .label _, s, K, a, w, h, hI => fun Q hQ => wp_label (hQ .normal s a w h hI)
  | .exit id, s, K, a, w, h, hI => fun Q hQ => wp_exit (hQ (.exit id) s a w h hI)
  | .goto l, s, K, a, w, h, hI => fun Q hQ => wp_goto (hQ (.goto l) s a w h hI)
  | .ret, s, K, a, w, h, hI => fun Q hQ => wp_ret (hQ .ret s a w h hI)
  | .region id ops draw, s, K, a, w, h, hI => by
    have h := T.sat_bind.1 (show ((rg ops draw s).bind fun s' => .ret (.normal, s')).sat K from h)
    refine (hrg id ops draw s _ a w h hI).mono fun r hr => ?_
    obtain ⟨x, s'⟩ := r
    obtain ⟨h1, h2⟩ := hr
    simp only at h1
    subst h1
    exact h2
  | .seq A B, s, K, a, w, h, hI => by
    have h := T.sat_bind.1 (show ((evCode rg hd L A s).bind fun r => X.rec (evCode rg hd L B r.2) (fun id => .ret (.exit id, r.2)) (fun l => .ret (.goto l, r.2)) (.ret (.ret, r.2)) r.1).sat K from h)
    refine seq_sound (evCode_sound hrg hhd A s _ a w h hI) (fun s' a' w' hk hI' => evCode_sound hrg hhd B s' K a' w' hk hI') (fun x s' hk hx => ?_)
    cases x <;> first | exact (hx rfl).elim | exact hk
  | .cond c A B, s, K, a, w, h, hI => by
    have h : (match s.eval c with
      | .v (.bool t) => .ite t (evCode rg hd L A s) (evCode rg hd L B s)
      | _ => .fail : T (X × St)).sat K := h
    split at h
    · rename_i t ht
      intro Q hQ
      obtain ⟨⟨E, hv, hs⟩, hd'⟩ := hI
      have hc := eval_rel hv c
      rw [ht] at hc
      simp only [VR] at hc
      refine wp_cond hc ?_
      cases t
      · exact evCode_sound hrg hhd B s K a w (h.2 rfl) ⟨⟨E, hv, hs⟩, hd'⟩ Q hQ
      · exact evCode_sound hrg hhd A s K a w (h.1 rfl) ⟨⟨E, hv, hs⟩, hd'⟩ Q hQ
    · exact h.elim
  | .block id c, s, K, a, w, h, hI => by
    have h := T.sat_bind.1 (show ((evCode rg hd L c s).bind fun r => match r.1 with
      | .exit id' => bif Nat.beq id' id then .ret (.normal, r.2) else .ret (.exit id', r.2)
      | x => .ret (x, r.2)).sat K from h)
    intro Q hQ
    refine wp_block (evCode_sound hrg hhd c s _ a w h hI _ fun x s' a' w' hk hI' => ?_)
    cases x with
    | normal => exact hQ .normal s' a' w' hk hI'
    | exit id' =>
      simp only [X.real, Exit.inBlock]
      have hk : (bif Nat.beq id' id then .ret (.normal, s') else .ret (.exit id', s') : T (X × St)).sat K := hk
      cases he : Nat.beq id' id with
      | true =>
        rw [he] at hk
        rw [if_pos (Nat.eq_of_beq_eq_true he)]
        exact hQ .normal s' a' w' hk hI'
      | false =>
        rw [he] at hk
        rw [if_neg (fun e => by subst e; simp at he)]
        exact hQ (.exit id') s' a' w' hk hI'
    | goto l => exact hQ (.goto l) s' a' w' hk hI'
    | ret => exact hQ .ret s' a' w' hk hI'
  | .loop c, s, K, a, w, h, hI => by
    have h : (loopN hd (evCode rg hd L c) L s).sat K := h
    intro Q hQ b k cs
    obtain ⟨e, a', w', hq, harr⟩ := loopN_sound (c := c) (fun s K a w h hI => evCode_sound hrg hhd c s K a w h hI) hhd L s K a w h hI Q (fun x s a w hk _ hI => hQ x s a w hk hI) b k cs
    exact ⟨e, a', w', hq, .of_steps (.one step_loop) harr⟩
  | .scope c, s, K, a, w, h, hI => by
    have h := T.sat_bind.1 (show ((evCode rg hd L c s).bind (scopeN hd (fun l => evFrom rg hd L l c) c L)).sat K from h)
    intro Q hQ b k cs
    obtain ⟨e, a', w', hq, harr⟩ := scopeN_sound (c := c) (fun l s K a w h hI => evFrom_sound hrg hhd c l s K a w h hI) hhd L K Q hQ c a w (evCode_sound hrg hhd c s _ a w h hI) b k cs
    exact ⟨e, a', w', hq, .of_steps (.one step_scope) harr⟩
  | .rangeFunc _ _ _ _, s, K, a, w, h, hI => (show False from h).elim
  | .refuse _, s, K, a, w, h, hI => (show False from h).elim
theorem evFrom_sound (hrg : RgOk P E0 M0 w0 d0 rg) (hhd : ∀ s a w, In E0 M0 w0 d0 s a w → In E0 M0 w0 d0 (hd s) a w) :
    ∀ (c : Code) (l : Nat) (s : St) (K : X × St → Prop) (a : Act) (w : World), (evFrom rg hd L l c s).sat K → In E0 M0 w0 d0 s a w → ∃ r, findLabel c l = some r ∧ WPs P E0 M0 w0 d0 r K a w
  | .seq A B, l, s, K, a, w, h, hI => by
    have h : (bif hasLabel l A then (evFrom rg hd L l A s).bind fun r => X.rec (evCode rg hd L B r.2) (fun id => .ret (.exit id, r.2)) (fun l => .ret (.goto l, r.2)) (.ret (.ret, r.2)) r.1 else evFrom rg hd L l B s).sat K := h
    by_cases hA : hasLabel l A = true
    · rw [hA] at h
      have h := T.sat_bind.1 (show ((evFrom rg hd L l A s).bind fun r => X.rec (evCode rg hd L B r.2) (fun id => .ret (.exit id, r.2)) (fun l => .ret (.goto l, r.2)) (.ret (.ret, r.2)) r.1).sat K from h)
      obtain ⟨r, hr, hw⟩ := evFrom_sound hrg hhd A l s _ a w h hI
      refine ⟨.seq r B, by simp only [findLabel, hr], ?_⟩
      refine seq_sound hw (fun s' a' w' hk hI' => evCode_sound hrg hhd B s' K a' w' hk hI') (fun x s' hk hx => ?_)
      cases x <;> first | exact (hx rfl).elim | exact hk
    · rw [show hasLabel l A = false by simpa using hA] at h
      have h : (evFrom rg hd L l B s).sat K := h
      obtain ⟨r, hr, hw⟩ := evFrom_sound hrg hhd B l s K a w h hI
      refine ⟨r, ?_, hw⟩
      have hn : findLabel A l = none := by
        rw [hasLabel_iff] at hA
        cases hq : findLabel A l with
        | none => rfl
        | some x => rw [hq] at hA; exact (hA rfl).elim
      simp only [findLabel, hn, hr]
  | .label l', l, s, K, a, w, h, hI => by
    have h : (bif Nat.beq l' l then .ret (.normal, s) else .fail : T (X × St)).sat K := h
    cases hl : Nat.beq l' l with
    | true =>
      rw [hl] at h
      have hl' : l' = l := Nat.eq_of_beq_eq_true hl
      exact ⟨.skip, by simp [findLabel, hl'], fun Q hQ => wp_skip (hQ .normal s a w h hI)⟩
    | false =>
      rw [hl] at h
      exact h.elim
  | .skip, l, s, K, a, w, h, hI | .region .., l, s, K, a, w, h, hI | .cond .., l, s, K, a, w, h, hI | .block .., l, s, K, a, w, h, hI | .loop .., l, s, K, a, w, h, hI | .rangeFunc .., l, s, K, a, w, h, hI
  | .exit .., l, s, K, a, w, h, hI | .scope .., l, s, K, a, w, h, hI | .goto .., l, s, K, a, w, h, hI | .ret, l, s, K, a, w, h, hI | .refuse .., l, s, K, a, w, h, hI => by
    exact (show False from h).elim
end
end

/-! ### Regions, functions -/
section
variable (C : Cfg) (call : Call)
noncomputable def evRegion (ops : Array Oper) (draw : Bool) (s : St) : T St :=
  match draw with
  | false => evOps C call ops ops.toList s
  | true => evDraw C call ops s
theorem evRegion_ok {E0 : Env} {M0 : Mem} {w0 : World} {d0 : List Deferred} (hC : C.Ok) (hm : C.P.follows .mixedOrders = true) (hcall : SoundCall C.P call) : RgOk C.P E0 M0 w0 d0 (evRegion C call) := by
  intro id ops draw s K a w h hI Q hQ
  cases draw with
  | false => exact wp_region (evOps_region hC hcall h hI fun s a w hk hI => hQ .normal s a w ⟨rfl, hk⟩ hI)
  | true => exact wp_region_any hm (evDraw_wpAny hC hcall h hI fun s a w hk hI => hQ .normal s a w ⟨rfl, hk⟩ hI)
theorem full_bot {E : Env} (us : Array Value) : TR E (Tm.full .bot us.size) us := ⟨rfl, fun i => by
  show VR E ((Tr.full .bot (Nat.log2 us.size + 1)).getR i) _
  rw [Tr.getR_eq]
  rcases Tr.get_full .bot (Nat.log2 us.size + 1) i with h | h
  · rw [h]; simp [VR]
  · rw [h]; simp [VR]⟩
theorem keepT_rel {E E' : Env} {f : Nat → Option Nat} (hf : ∀ n m e, f n = some m → E n = some e → E' m = some e) {old : Tm} {us : Array Value} (h : TR E old us) : ∀ (l : List Nat) (t : Tm), TR E' t us → TR E' (keepT old f l t) us
  | [], t, ht => ht
  | d :: l, t, ht => by
    refine keepT_rel hf h l _ ?_
    have := ht.put d ((h.get d).ren hf)
    by_cases hd : d < us.size
    · have e : us.setIfInBounds d (us.getD d undef) = us := by
        apply Array.ext_getElem?
        intro k
        by_cases hk : d = k
        · subst hk; simp [Array.getD_eq_getD_getElem?, hd]
        · rw [Array.getElem?_setIfInBounds_ne hk]
      rwa [e] at this
    · rw [t.get_out _ (by rw [← ht.n]; exact hd)]
      exact ht
theorem tidy_ok {E0 : Env} {M0 : Mem} {w0 : World} {d0 : List Deferred} (hR : R E0 M0 w0) (live : Option (List Nat)) (s : St) (a : Act) (w : World) (h : In E0 M0 w0 d0 s a w) : In E0 M0 w0 d0 (tidy M0.length live s) a w := by
  cases live with
  | none => exact h
  | some live =>
    obtain ⟨⟨E, hv, hs⟩, hd⟩ := h
    exact ⟨⟨_, keepT_rel gc_ren hv live _ (by rw [← hv.n]; exact full_bot _), gcStep hR hs (keepOf_ok _ _ _)⟩, hd⟩
/-- The results. -/
noncomputable def aResults (P : Program) (s : St) : List ResultVar → T (List AV)
  | [] => .ret []
  | .tmp t :: l => (aResults P s l).bind fun vs => .ret (s.tmps.get t :: vs)
  | .cell a t :: l => (aLoad P t (s.tmps.get a) s.mem).bind fun v => (aResults P s l).bind fun vs => .ret (v :: vs)
def one1 : List AV → AV
  | [v] => v
  | vs => .tup vs
def finish (c0 : Nat) (v : AV) (M : Mem) : AV × Mem :=
  let keep := keepOf c0 [v] M
  (v.ren (renF c0 keep), gcM c0 keep M)
noncomputable def evFn (H : FuncId → Option (List Nat)) (L : Nat) (f : FuncId) (args : List AV) (M : Mem) : T (AV × Mem) :=
  match C.P.funcs[f]? with
  | some fn =>
    match fn.body with
    | some c => (evCode (evRegion C call) (tidy M.length (H f)) L c ⟨putAll 0 args (Tm.full (.v undef) (max fn.ntmps args.length)), M⟩).bind fun r =>
      match r.1 with
      | .normal | .ret => (aResults C.P r.2 fn.results.toList).bind fun vs => .ret (finish M.length (one1 vs) r.2.mem)
      | _ => .fail
    | none => .fail
  | none => .fail
end
theorem aResults_sound {P : Program} {E : Env} {s : St} {a : Act} {w : World} (hv : TR E s.tmps a.tmps) (hR : R E s.mem w) : ∀ {l : List ResultVar} {K : List AV → Prop}, (aResults P s l).sat K →
    ∃ (us : List Value) (vs : List AV), (l.mapM (m := Sem) fun | .tmp t => pure (a.tmps.getD t undef) | .cell b t => do loadVar t (← asAddr (a.tmps.getD b undef))).run P w = .ok us w ∧ K vs ∧ VRs E vs us
  | [], K, h => ⟨[], [], by simp, h, by simp [VRs]⟩
  | .tmp t :: l, K, h => by
    rw [aResults, T.sat_bind] at h
    obtain ⟨us, vs, h1, h2, h3⟩ := aResults_sound hv hR h
    refine ⟨a.tmps.getD t undef :: us, _, ?_, h2, by simp only [VRs]; exact ⟨_, _, rfl, hv.get t, h3⟩⟩
    simp only [List.mapM_cons, Sem.run_bind, Sem.run_pure, Result.andThen_ok]
    rw [h1]
    rfl
  | .cell b t :: l, K, h => by
    rw [aResults, T.sat_bind] at h
    obtain ⟨x, v, h1, h2, h3⟩ := aLoad_sound h (hv.get b) hR
    rw [T.sat_bind] at h2
    obtain ⟨us, vs, h4, h5, h6⟩ := aResults_sound hv hR h2
    refine ⟨x :: us, _, ?_, h5, by simp only [VRs]; exact ⟨_, _, rfl, h3, h6⟩⟩
    have hl : (do loadVar t (← asAddr (a.tmps.getD b undef)) : Sem Value).run P w = .ok x w := by
      unfold Instr.loadAt at h1
      cases hq : a.tmps.getD b undef with
      | pointer o =>
        rw [hq] at h1
        cases o with
        | none => simp [Instr.sureAddr] at h1
        | some ad => simpa [Instr.sureAddr, asAddr] using h1
      | _ => rw [hq] at h1; simp [Instr.sureAddr] at h1
    simp only [List.mapM_cons, Sem.run_bind] at hl ⊢
    rw [hl]
    simp only [Result.andThen_ok]
    rw [h4]
    rfl
theorem evFn_sound {C : Cfg} {call : Call} (hC : C.Ok) (hm : C.P.follows .mixedOrders = true) (hcall : SoundCall C.P call) (H : FuncId → Option (List Nat)) (L : Nat) : SoundCall C.P (evFn C call H L) := by
  intro f args M Q E w us h hv hR
  unfold evFn at h
  split at h
  · rename_i fn hf
    split at h
    · rename_i c hb
      rw [T.sat_bind] at h
      refine calls_of_wp hf hb ?_
      have hI : In E M w [] ⟨putAll 0 args (Tm.full (.v undef) (max fn.ntmps args.length)), M⟩ { tmps := us ++ Array.replicate (fn.ntmps - us.size) undef, defers := [] } w := by
        refine ⟨⟨E, ?_, Step.refl hR⟩, rfl⟩
        have hl := hv.length
        simp only [Array.length_toList] at hl
        have hbase : TR E (Tm.full (.v undef) (max fn.ntmps args.length)) (Array.replicate (max fn.ntmps args.length) undef) := TR.full _ _ (by simp) (fun i => by
          rw [Array.getD_eq_getD_getElem?, Array.getElem?_replicate]
          split <;> rfl)
        have := TR.putAll 0 hv hbase
        have e : (us.toList.zipIdx 0).foldl (fun ws p => ws.setIfInBounds p.2 p.1) (Array.replicate (max fn.ntmps args.length) undef) = us ++ Array.replicate (fn.ntmps - us.size) undef := by
          apply Array.ext'
          rw [foldl_args us.toList 0 _ [] rfl (by simp; omega) (by simp; omega)]
          simp only [List.nil_append, Array.toList_append, Array.toList_replicate, List.length_nil, Array.size_replicate, Nat.zero_add, Array.length_toList]
          congr 2
          omega
        rwa [e] at this
      refine evCode_sound (evRegion_ok C call hC hm hcall) (tidy_ok hR (H f)) c _ _ _ w h hI _ fun x s a w' hk hI' => ?_
      obtain ⟨⟨E', hv', hs⟩, hd⟩ := hI'
      have fin : ((aResults C.P s fn.results.toList).bind fun vs => .ret (finish M.length (one1 vs) s.mem) : T (AV × Mem)).sat Q → a.defers = [] ∧ ∃ v, (results fn a.tmps).run C.P w' = .ok v w' ∧ CallPost E M w Q (.returned v) w' := fun hk => by
        rw [T.sat_bind] at hk
        obtain ⟨us', vs, h1, h2, h3⟩ := aResults_sound hv' hs.rel hk
        have hone : VR E' (one1 vs) (if h : us'.toArray.size = 1 then us'.toArray[0] else .tuple us'.toArray) := by
          have hl := h3.length
          match vs, us', h3, hl with
          | [], [], h3, _ => simp only [one1]; simp [VR, VRs]
          | [v], [u], h3, _ =>
            simp only [VRs] at h3
            obtain ⟨u', us'', he, h4, h5⟩ := h3
            injection he with he1 he2
            subst he1
            simpa [one1] using h4
          | v :: v' :: vs, [], h3, hl => simp at hl
          | v :: v' :: vs, [_], h3, hl => simp at hl
          | v :: v' :: vs, u :: u' :: us, h3, hl =>
            simp only [one1]
            rw [dif_neg (by simp)]
            simp only [VR]
            exact ⟨_, rfl, by simpa using h3⟩
        refine ⟨hd, _, ?_, _, rfl, _, _, _, h2, hone.ren gc_ren, gcStep hR hs (keepOf_ok _ _ _)⟩
        have he : results fn a.tmps = (do
            let vs ← List.toArray <$> (fn.results.toList.mapM (m := Sem) fun | .tmp t => pure (a.tmps.getD t undef) | .cell b t => do loadVar t (← asAddr (a.tmps.getD b undef)))
            pure (if h : vs.size = 1 then vs[0] else .tuple vs)) := by
          unfold results
          rw [Array.mapM_eq_mapM_toList]
          rfl
        rw [he]
        simp only [Sem.run_bind, map_eq_pure_bind, h1, Result.andThen_ok, Sem.run_pure]
      cases x with
      | normal => exact fin hk
      | ret => exact fin hk
      | exit id => exact hk.elim
      | goto l => exact hk.elim
    · exact h.elim
  · exact h.elim
end Go.Proofs.YtnpggmdpokcakaaGreatDoor.AM
namespace Go.Proofs.YtnpggmdpokcakaaGreatDoor.AM
open Go.RowKit
/-- Which functions a call enters. -/
def enters (P : Program) (f : FuncId) : Bool :=
  match P.funcs[f]? with
  | some fn => !(fn.name == "runtime.NumGoroutine") && fn.body.isSome
  | none => false
theorem enters_run {P : Program} {f : FuncId} (h : enters P f = true) (args : Array Value) (w : World) : (callFunc f args).run P w = .ok (.enter f args) w := by
  unfold enters at h
  split at h
  · rename_i fn hf
    simp only [Bool.and_eq_true, Bool.not_eq_true'] at h
    have hb : fn.body.isNone = false := by cases hq : fn.body <;> simp_all
    have h1 : fn.name ≠ "runtime.NumGoroutine" := by have := h.1; simpa using this
    have h2 : fn.body ≠ none := by intro hq; rw [hq] at hb; cases hb
    simp [callFunc, hf, h1, h2]
  · cases h
variable [Base]
abbrev Oracle := FuncId → Option (List AV → Mem → T (AV × Mem))
noncomputable def evC (C : Cfg) (O : Oracle) (H : FuncId → Option (List Nat)) (L : Nat) : Nat → Call
  | 0 => fun f args M => match O f with
    | some g => g args M
    | none => .fail
  | n + 1 => fun f args M => match O f with
    | some g => g args M
    | none => evFn C (evC C O H L n) H L f args M
def SoundOracle (P : Program) (O : Oracle) : Prop :=
  ∀ (f : FuncId) (g : List AV → Mem → T (AV × Mem)), O f = some g → ∀ (args : List AV) (M : Mem) (Q : AV × Mem → Prop) (E : Env) (w : World) (us : Array Value), (g args M).sat Q → VRs E args us.toList → R E M w → Calls P f us w (CallPost E M w Q)
theorem evC_sound {C : Cfg} {O : Oracle} (hC : C.Ok) (hm : C.P.follows .mixedOrders = true) (hO : SoundOracle C.P O) (H : FuncId → Option (List Nat)) (L : Nat) : ∀ n, SoundCall C.P (evC C O H L n)
  | 0, f, args, M, Q, E, w, us, h, hv, hR => by
    simp only [evC] at h
    cases hf : O f with
    | some g => rw [hf] at h; exact hO f g hf args M Q E w us h hv hR
    | none => rw [hf] at h; exact h.elim
  | n + 1, f, args, M, Q, E, w, us, h, hv, hR => by
    simp only [evC] at h
    cases hf : O f with
    | some g => rw [hf] at h; exact hO f g hf args M Q E w us h hv hR
    | none => rw [hf] at h; exact evFn_sound hC hm (evC_sound hC hm hO H L n) H L f args M Q E w us h hv hR
def noOracle : Oracle := fun _ => none
theorem noOracle_sound (P : Program) : SoundOracle P noOracle := fun f g h => by cases h
theorem R.empty (w : World) (hi : Base.I w) (hg : ∀ b, Base.K b → b < w.heap.size) : R (fun _ => none) [] w where
  fresh := fun _ _ => rfl
  dom := fun _ _ h => by cases h
  live := fun n ab h => by simp at h
  inj := fun n m ab ab' e e' h => by simp at h
  inv := hi
  gle := hg
  base := fun n ab e h => by simp at h
/-- Memory in which nothing is one's own: what was there is as it was. -/
theorem Step.below {E E' : Env} {M M' : Mem} {w w' : World} (h : Step E M w E' M' w') (hno : ∀ (n : Nat) (ab : AB), M[n]? = some (some ab) → ab.own = false) : Below w.heap.size w w' :=
  ⟨h.os, h.tape, h.output, h.size, fun b hb => h.block b hb fun n ab e hn ho _ => by rw [hno n ab hn] at ho; cases ho⟩
/-- New blocks and draws. -/
theorem Step.of_below {E : Env} {M : Mem} {w w' : World} (h : R E M w) (hb : Below w.heap.size w w') : Step E M w E M w' := by
  refine ⟨Env.le_refl E, fun _ _ => rfl, Nat.le_refl _, kind_refl M, ⟨h.fresh, fun n e he => Nat.lt_of_lt_of_le (h.dom n e he) hb.size, fun n ab hn => ?_, h.inj, Base.pres w w' (fun b hb' => hb.block b (h.gle b hb')) h.inv, fun b hb' => Nat.lt_of_lt_of_le (h.gle b hb') hb.size, h.base⟩, hb.os, hb.tape, hb.output, hb.size, fun b hb' _ => hb.block b hb', fun n ab e h1 h2 h3 => .inr ⟨n, ab, h1, h2, e, h3, rfl⟩⟩
  obtain ⟨e, he, hr⟩ := h.live n ab hn
  exact ⟨e, he, hr.keep (Env.le_refl E) (hb.block _ (h.dom n e he))⟩
/-- A closed run. -/
theorem closed_calls {P : Program} {call : Call} (hcall : SoundCall P call) {f : FuncId} {x : Value} (h : (call f [] []).run = some (.v x, [])) (w : World) (hi : Base.I w) (hg : ∀ b, Base.K b → b < w.heap.size) : Calls P f #[] w fun e w' => e = .returned x ∧ Below w.heap.size w w' := by
  refine (hcall f [] [] (fun r => r = (.v x, [])) _ w #[] (T.sat_of_run h rfl) (by simp [VRs]) (R.empty w hi hg)).mono ?_
  rintro e w' ⟨u, rfl, E', v, M', hr, hv, hs⟩
  injection hr with h1 h2
  subst h1
  simp only [VR] at hv
  subst hv
  exact ⟨rfl, hs.below fun n ab hn => by simp at hn⟩
end Go.Proofs.YtnpggmdpokcakaaGreatDoor.AM
namespace Go.Proofs.YtnpggmdpokcakaaGreatDoor.AM
open Go.RowKit
/-! ### Regions inside a round: from the rules outside of one -/
def noDeferB (o : Oper) : Bool := match o.op with | .defer _ => false | _ => true
theorem noDefer {ops : Array Oper} (h : ops.toList.all noDeferB = true) : ∀ (i : Nat) (o : Oper), ops[i]? = some o → ∀ c, o.op ≠ .defer c := by
  intro i o ho c hc
  have h1 := List.all_eq_true.1 h o (by have := Array.mem_of_getElem? ho; simpa using this)
  unfold noDeferB at h1
  rw [hc] at h1
  cases h1
theorem rowsIn_round {l n : Nat} {P : Program} {row : String} {args : Array Value} {w : World} {R : Value → World → Prop} (h : Rows P row args w R) : RowsIn (Fence.wide.inRound l) n P row args w R :=
  fun c cs _ => let ⟨v, w', r, s⟩ := h c cs; ⟨v, w', r, stepsIn_wide.2 s⟩
theorem upon_round {l n : Nat} {P : Program} {o : Oper} {a : Act} {next next' : Act → World → Prop} {Q : Exit → Act → World → Prop} (hn : ∀ a w, next a w → next' a w) : ∀ {r : Result Next}, o.upon P a next Q r → o.uponIn (Fence.wide.inRound l) n P a next' Q r := by
  intro r h
  cases r with
  | ok x w' =>
    cases x <;> simp only [Oper.upon, Oper.uponIn] at h ⊢
    case value v => exact hn _ _ h
    case skip => exact hn _ _ h
    case defer d => exact hn _ _ h
    case enter f args =>
      refine ⟨fun hc => (by cases hc), ?_⟩
      refine CallsIn.inRound l (callsIn_wide.2 (h.mono ?_))
      intro e w'' he
      cases e with
      | returned v => exact hn _ _ he
      | panicked c => exact he
      | outgrown => exact he
    case row row args =>
      exact ⟨fun hc => (by cases hc), rowsIn_round (h.mono fun v w'' he => hn _ _ he)⟩
  | halt x w' =>
    cases x <;> simp only [Oper.upon, Oper.uponIn] at h ⊢
    case panic v => exact h
theorem wpOpsIn_of_round {l n : Nat} {P : Program} {ops : Array Oper} {Q : Exit → Act → World → Prop} (hd : ∀ (i : Nat) (o : Oper), ops[i]? = some o → ∀ c, o.op ≠ .defer c) (hQ : ¬ LetsOut Q) :
    ∀ (is : List Nat) (a : Act) (w : World), wpOps P ops Q is a w → wpOpsIn (Fence.wide.inRound l) n P ops Q is a w := by
  intro is
  induction is with
  | nil => intro a w h; exact h
  | cons i rest ih =>
    intro a w h
    unfold wpOps at h
    unfold wpOpsIn
    cases ho : ops[i]? with
    | none => simp only [ho] at h ⊢; exact ih _ _ h
    | some o =>
      simp only [ho] at h ⊢
      split at h
      · rename_i hw
        rw [if_pos hw]
        rcases h with h | ⟨_, h⟩
        · refine ⟨fun _ _ => trivial, ?_⟩
          have e : o.semAt (Fence.wide.inRound l).round a.eval = execOp a.eval o := Oper.semAt_some l _ o (hd i o ho)
          rw [e]
          exact upon_round ih h
        · exact absurd h hQ
      · rename_i hw
        rw [if_neg hw]
        exact ⟨fun _ _ => trivial, ih _ _ h⟩
theorem upon_wide {n : Nat} {P : Program} {o : Oper} {a : Act} {next next' : Act → World → Prop} {Q : Exit → Act → World → Prop} (hn : ∀ a w, next a w → next' a w) : ∀ {r : Result Next}, o.upon P a next Q r → o.uponIn Fence.wide n P a next' Q r := by
  intro r h
  cases r with
  | ok x w' =>
    cases x <;> simp only [Oper.upon, Oper.uponIn] at h ⊢
    case value v => exact hn _ _ h
    case skip => exact hn _ _ h
    case defer d => exact hn _ _ h
    case enter f args =>
      refine ⟨fun hc => (by cases hc), ?_⟩
      refine callsIn_wide.2 (h.mono ?_)
      intro e w'' he
      cases e with
      | returned v => exact hn _ _ he
      | panicked c => exact he
      | outgrown => exact he
    case row row args =>
      exact ⟨fun hc => (by cases hc), fun c cs _ => let ⟨v, w', r, s⟩ := h c cs; ⟨v, w', hn _ _ r, stepsIn_wide.2 s⟩⟩
  | halt x w' =>
    cases x <;> simp only [Oper.upon, Oper.uponIn] at h ⊢
    case panic v => exact h
variable [Base]
/-! ### Code -/
noncomputable def simpleC (c : Code) : Bool :=
  Code.rec (motive := fun _ => Bool) true (fun _ ops _ => ops.toList.all noDeferB) (fun _ _ A B => A && B) (fun _ _ _ A B => A && B) (fun _ _ A => A) (fun _ _ => false) (fun _ _ _ _ _ _ => false) (fun _ => true) (fun _ _ => false) (fun _ => false) (fun _ => false) true (fun _ => false) c
def WPsR (n : Nat) (l : Nat) (P : Program) (E0 : Env) (M0 : Mem) (w0 : World) (d0 : List Deferred) (c : Code) (K : X × St → Prop) (a : Act) (w : World) : Prop :=
  ∀ (Q : Exit → Act → World → Prop), ¬ LetsOut Q → (∀ x s a w, K (x, s) → In E0 M0 w0 d0 s a w → Q x.real a w) → c.wpIn (Fence.wide.inRound l) n P Q a w
section
variable {C : Cfg} {call : Call}
theorem region_round {n l : Nat} {E0 : Env} {M0 : Mem} {w0 : World} {d0 : List Deferred} (hC : C.Ok) (hm : C.P.follows .mixedOrders = true) (hcall : SoundCall C.P call) (id : Nat) (ops : Array Oper) (draw : Bool) (hd : ops.toList.all noDeferB = true) (s : St) (K : St → Prop) (a : Act) (w : World) (h : (evRegion C call ops draw s).sat K) (hI : In E0 M0 w0 d0 s a w) :
    WPsR n l C.P E0 M0 w0 d0 (.region id ops draw) (fun r => r.1 = .normal ∧ K r.2) a w := by
  intro Q hL hQ
  cases draw with
  | false => exact wpIn_region (wpOpsIn_of_round (noDefer hd) hL _ _ _ (evOps_region hC hcall h hI fun s a w hk hI => hQ .normal s a w ⟨rfl, hk⟩ hI))
  | true =>
    refine wpIn_region_draw fun t => wpOpsIn_of_round (noDefer hd) hL _ _ _ ?_
    simp only [Region.schedule, hm, Bool.true_or, if_true]
    exact wpAny_sound ops.size t _ a _ (evDraw_wpAny hC hcall h hI fun s a w hk hI => hQ .normal s a w ⟨rfl, hk⟩ hI)
theorem round_code {n l : Nat} {E0 : Env} {M0 : Mem} {w0 : World} {d0 : List Deferred} {L : Nat} (hC : C.Ok) (hm : C.P.follows .mixedOrders = true) (hcall : SoundCall C.P call) :
    ∀ (c : Code) (s : St) (K : X × St → Prop) (a : Act) (w : World), simpleC c = true → (evCode (evRegion C call) id L c s).sat K → In E0 M0 w0 d0 s a w → WPsR n l C.P E0 M0 w0 d0 c K a w
  | .skip, s, K, a, w, hs, h, hI => fun Q _ hQ => wpIn_skip (hQ .normal s a w h hI)
  | .exit id, s, K, a, w, hs, h, hI => fun Q _ hQ => wpIn_exit (hQ (.exit id) s a w h hI)
  | .ret, s, K, a, w, hs, h, hI => fun Q _ hQ => wpIn_ret (hQ .ret s a w h hI)
  | .region id ops draw, s, K, a, w, hs, h, hI => by
    have h := T.sat_bind.1 (show ((evRegion C call ops draw s).bind fun s' => .ret (.normal, s')).sat K from h)
    intro Q hL hQ
    refine region_round hC hm hcall id ops draw hs s _ a w h hI Q hL fun x s' a' w' hk hI' => ?_
    obtain ⟨rfl, hk⟩ := hk
    exact hQ .normal s' a' w' hk hI'
  | .seq A B, s, K, a, w, hs, h, hI => by
    have hs : simpleC A = true ∧ simpleC B = true := by simpa [simpleC] using hs
    have h := T.sat_bind.1 (show ((evCode (evRegion C call) id L A s).bind fun r => X.rec (evCode (evRegion C call) id L B r.2) (fun id => .ret (.exit id, r.2)) (fun l => .ret (.goto l, r.2)) (.ret (.ret, r.2)) r.1).sat K from h)
    intro Q hL hQ
    refine wpIn_seq (round_code hC hm hcall A s _ a w hs.1 h hI _ (fun ⟨a, w, hq⟩ => hL ⟨a, w, hq⟩) fun x s' a' w' hk hI' => ?_)
    cases x with
    | normal => exact round_code hC hm hcall B s' K a' w' hs.2 hk hI' Q hL hQ
    | exit id => exact hQ (.exit id) s' a' w' hk hI'
    | goto l => exact hQ (.goto l) s' a' w' hk hI'
    | ret => exact hQ .ret s' a' w' hk hI'
  | .cond c A B, s, K, a, w, hs, h, hI => by
    have hs : simpleC A = true ∧ simpleC B = true := by simpa [simpleC] using hs
    have h : (match s.eval c with
      | .v (.bool t) => .ite t (evCode (evRegion C call) id L A s) (evCode (evRegion C call) id L B s)
      | _ => .fail : T (X × St)).sat K := h
    split at h
    · rename_i t ht
      intro Q hL hQ
      obtain ⟨⟨E, hv, hs'⟩, hd'⟩ := hI
      have hc := eval_rel hv c
      rw [ht] at hc
      simp only [VR] at hc
      refine wpIn_cond hc ?_
      cases t
      · exact round_code hC hm hcall B s K a w hs.2 (h.2 rfl) ⟨⟨E, hv, hs'⟩, hd'⟩ Q hL hQ
      · exact round_code hC hm hcall A s K a w hs.1 (h.1 rfl) ⟨⟨E, hv, hs'⟩, hd'⟩ Q hL hQ
    · exact h.elim
  | .block id' c, s, K, a, w, hs, h, hI => by
    have hs : simpleC c = true := hs
    have h := T.sat_bind.1 (show ((evCode (evRegion C call) id L c s).bind fun r => match r.1 with
      | .exit id'' => bif Nat.beq id'' id' then .ret (.normal, r.2) else .ret (.exit id'', r.2)
      | x => .ret (x, r.2)).sat K from h)
    intro Q hL hQ
    refine wpIn_block (round_code hC hm hcall c s _ a w hs h hI _ (fun ⟨a, w, hq⟩ => hL ⟨a, w, hq⟩) fun x s' a' w' hk hI' => ?_)
    cases x with
    | normal => exact hQ .normal s' a' w' hk hI'
    | exit id'' =>
      simp only [X.real, Exit.inBlock]
      have hk : (bif Nat.beq id'' id' then .ret (.normal, s') else .ret (.exit id'', s') : T (X × St)).sat K := hk
      cases he : Nat.beq id'' id' with
      | true =>
        rw [he] at hk
        rw [if_pos (Nat.eq_of_beq_eq_true he)]
        exact hQ .normal s' a' w' hk hI'
      | false =>
        rw [he] at hk
        rw [if_neg (fun e => by subst e; simp at he)]
        exact hQ (.exit id'') s' a' w' hk hI'
    | goto l => exact hQ (.goto l) s' a' w' hk hI'
    | ret => exact hQ .ret s' a' w' hk hI'
  | .loop _, _, _, _, _, hs, _, _ | .label _, _, _, _, _, hs, _, _ | .goto _, _, _, _, _, hs, _, _ | .scope _, _, _, _, _, hs, _, _ | .rangeFunc .., _, _, _, _, hs, _, _ | .refuse _, _, _, _, _, hs, _, _ => by cases hs
end
end Go.Proofs.YtnpggmdpokcakaaGreatDoor.AM
namespace Go.Proofs.YtnpggmdpokcakaaGreatDoor.AM
open Go.RowKit
variable [Base]
/-! ### A block that holds no cells -/
section
variable {E E' : Env} {M M' : Mem} {w w' : World}
theorem R.notown (h : R E M w) {l : Nat} {o : Obj} (ho : w.heap[l]? = some o) (hc : o.isCells = false) : ∀ n ab e, M[n]? = some (some ab) → ab.own = true → E n = some e → e.b ≠ l := by
  intro n ab e hn hab he hbe
  obtain ⟨e', he', hb⟩ := h.live n ab hn
  rw [he] at he'
  injection he' with he'
  subst he'
  obtain ⟨_, cur, hcur, _⟩ := hb.own hab
  rw [hbe, ho] at hcur
  injection hcur with hcur
  subst hcur
  cases hc
theorem Step.keeps (h : Step E M w E' M' w') (hR : R E M w) {l : Nat} {o : Obj} (ho : w.heap[l]? = some o) (hc : o.isCells = false) : w'.heap[l]? = some o :=
  (h.block l (Array.getElem?_eq_some_iff.1 ho).1 (hR.notown ho hc)).trans ho
theorem cell_notcells {l : Nat} {o : Obj} (ho : w.heap[l]? = some o) (hc : o.isCells = false) {ad : Addr} {u : Value} (h : w.cell? ad = some u) : ad.block ≠ l := by
  intro e
  obtain ⟨o', h1, h2⟩ := cells_of_cell h
  rw [e, ho] at h1
  injection h1 with h1
  subst h1
  rw [hc] at h2
  cases h2
theorem R.put (h : R E M w) {l : Nat} {o : Obj} (ho : w.heap[l]? = some o) (hc : o.isCells = false) (hK : ¬ Base.K l) (o' : Obj) : R E M (w.putObj l o') := by
  have hoth : ∀ b, b ≠ l → (w.putObj l o').heap[b]? = w.heap[b]? := fun b hb => World.putObj_heap_other hb
  refine ⟨h.fresh, fun n e he => by rw [World.putObj_size]; exact h.dom n e he, fun n ab hn => ?_, h.inj, Base.pres w _ (fun b hb => hoth b (fun e => hK (e ▸ hb))) h.inv, fun b hb => by rw [World.putObj_size]; exact h.gle b hb, h.base⟩
  obtain ⟨e, he, hb⟩ := h.live n ab hn
  refine ⟨e, he, hb.flat, hb.one, fun j a hj => ?_, fun hab => ?_⟩
  · obtain ⟨u, h1, h2⟩ := hb.cells j a hj
    exact ⟨u, (World.cell?_of_block (hoth e.b (cell_notcells ho hc h1))).trans h1, h2⟩
  · obtain ⟨h1, cur, h2, h3⟩ := hb.own hab
    exact ⟨h1, cur, (hoth e.b (h.notown ho hc n ab e hn hab he)).trans h2, h3⟩
/-- A new block turned. -/
theorem Step.then_put (h : Step E M w E' M' w') {l : Nat} {o : Obj} (hl : w.heap.size ≤ l) (ho : w'.heap[l]? = some o) (hc : o.isCells = false) (hK : ¬ Base.K l) (o' : Obj) : Step E M w E' M' (w'.putObj l o') :=
  ⟨h.le, h.old, h.len, h.kind, h.rel.put ho hc hK o', h.os, h.tape, h.output, by rw [World.putObj_size]; exact h.size, fun b hb hn => (World.putObj_heap_other (by omega)).trans (h.block b hb hn), h.org⟩
/-- A block of no cells turned, and turned back in the end. -/
theorem Step.around {w1 w2 : World} {E1 E2 : Env} {M1 M2 : Mem} {l : Nat} {o o1 : Obj} (hR : R E1 M1 w1) (ho : w1.heap[l]? = some o) (hc : o.isCells = false) (hK : ¬ Base.K l) (hc1 : o1.isCells = false)
    (hs : Step E1 M1 (w1.putObj l o1) E2 M2 w2) : w2.heap[l]? = some o1 ∧ Step E1 M1 w1 E2 M2 (w2.putObj l o) := by
  have hlt : l < w1.heap.size := (Array.getElem?_eq_some_iff.1 ho).1
  have h1 : (w1.putObj l o1).heap[l]? = some o1 := World.putObj_heap_same hlt
  have h2 := hs.keeps (hR.put ho hc hK o1) h1 hc1
  have hsz := hs.size
  rw [World.putObj_size] at hsz
  refine ⟨h2, hs.le, hs.old, hs.len, hs.kind, hs.rel.put h2 hc1 hK o, hs.os, hs.tape, hs.output, by rw [World.putObj_size]; exact hsz, fun b hb hn => ?_, fun n ab e hn hab he => ?_⟩
  · by_cases hbl : b = l
    · subst hbl
      rw [World.putObj_heap_same (by omega), ho]
    · rw [World.putObj_heap_other hbl]
      exact (hs.block b (by rw [World.putObj_size]; exact hb) hn).trans (World.putObj_heap_other hbl)
  · have := hs.org n ab e hn hab he
    rwa [World.putObj_size] at this
/-- A name for a block of no cells. -/
theorem Step.name (h : R E M w) {l : Nat} (hl : l < w.heap.size) : Step E M w (E.put M.length ⟨l, 0, 0⟩) (M ++ [none]) w := by
  have hle := Env.le_put (E := E) (n := M.length) ⟨l, 0, 0⟩ (h.fresh _ (Nat.le_refl _))
  have hget : ∀ {k : Nat} {x : AB}, (M ++ [none])[k]? = some (some x) → k < M.length ∧ M[k]? = some (some x) := fun {k x} hk => by
    rcases Nat.lt_or_ge k M.length with hl | hl
    · rw [List.getElem?_append_left hl] at hk
      exact ⟨hl, hk⟩
    · rw [List.getElem?_append_right hl] at hk
      cases hq : k - M.length with
      | zero => rw [hq] at hk; cases hk
      | succ j => rw [hq] at hk; simp at hk
  have hother : ∀ {k : Nat} {x : Ent}, k ≠ M.length → E.put M.length ⟨l, 0, 0⟩ k = some x → E k = some x := fun hn he => by simpa [Env.put, hn] using he
  refine ⟨hle, put_old _, by simp, fun k x hk => ?_, ⟨fun k hk => ?_, fun k x hx => ?_, fun k x hk => ?_, fun k m x y e1 e2 hk hm hox hne he1 he2 => ?_, h.inv, h.gle, fun k x e1 hk hox he1 => ?_⟩, rfl, rfl, rfl, Nat.le_refl _, fun _ _ _ => rfl, fun k x e1 hk hox he1 => ?_⟩
  · obtain ⟨hkl, hk⟩ := hget hk
    exact ⟨fun _ => ⟨x, hk, rfl⟩, fun _ => by omega⟩
  · simp only [List.length_append, List.length_cons, List.length_nil] at hk
    simp only [Env.put]
    rw [if_neg (by omega)]
    exact h.fresh k (by omega)
  · by_cases hkm : k = M.length
    · subst hkm; rw [Env.put_self] at hx; injection hx with hx; subst hx; exact hl
    · exact h.dom k x (hother hkm hx)
  · obtain ⟨hkl, hk⟩ := hget hk
    obtain ⟨e, he, hb⟩ := h.live k x hk
    exact ⟨e, hle _ _ he, hb.keep hle rfl⟩
  · obtain ⟨hkl, hk⟩ := hget hk
    obtain ⟨hml, hm⟩ := hget hm
    exact h.inj k m x y e1 e2 hk hm hox hne (hother (by omega) he1) (hother (by omega) he2)
  · obtain ⟨hkl, hk⟩ := hget hk
    exact h.base k x e1 hk hox (hother (by omega) he1)
  · obtain ⟨hkl, hk⟩ := hget hk
    exact .inr ⟨k, x, hk, hox, e1, hother (by omega) he1, rfl⟩
end
/-! ### A round -/
noncomputable def putPs : List Tmp → List AV → Tm → Tm
  | p :: ps, a :: as, t => putPs ps as (t.put p a)
  | _, _, t => t
theorem putPs_rel {E : Env} : ∀ {ps : List Tmp} {as : List AV} {us : List Value} {t : Tm} {vs : Array Value}, VRs E as us → TR E t vs → TR E (putPs ps as t) ((ps.zip us).foldl (fun t (p, v) => t.setIfInBounds p v) vs)
  | [], as, us, t, vs, _, ht => by simpa [putPs] using ht
  | p :: ps, [], us, t, vs, h, ht => by
    simp only [VRs] at h
    subst h
    simpa [putPs] using ht
  | p :: ps, a :: as, us, t, vs, h, ht => by
    simp only [VRs] at h
    obtain ⟨u, us', rfl, h1, h2⟩ := h
    simp only [putPs, List.zip_cons_cons, List.foldl_cons]
    exact putPs_rel h2 (ht.put p h1)
section
variable (C : Cfg) (call : Call) (L : Nat)
noncomputable def roundEv (ps : List Tmp) (assign body : Code) (t0 : Tm) (args : List AV) (M : Mem) : T (AV × Mem) :=
  T.guard (Nat.beq args.length ps.length) ((evCode (evRegion C call) id L assign ⟨putPs ps args t0, M⟩).bind fun r => match r.1 with
    | .normal => (evCode (evRegion C call) id L body r.2).bind fun r => match r.1 with
      | .normal => .ret (.v (.bool true), r.2.mem)
      | _ => .fail
    | _ => .fail)
end
section
variable {C : Cfg} {call : Call} {L : Nat}
theorem round_sound (hC : C.Ok) (hm : C.P.follows .mixedOrders = true) (hcall : SoundCall C.P call) (n : Nat) {l D fn : Nat} {ps : Array Tmp} {assign body : Code} (ha : simpleC assign = true) (hb : simpleC body = true) {t0 : Tm} {us0 : Array Value} {args : List AV} {vs : Array Value} {E : Env} {M : Mem} {W : World} {Q : AV × Mem → Prop}
    (h : (roundEv C call L ps.toList assign body t0 args M).sat Q) (ht : TR E t0 us0) (hR : R E M W) (hv : VRs E args vs.toList)
    (hl : W.heap[l]? = some (.loop { state := .ready, pending := none, fn := fn, tmps := us0, params := ps, assign := assign, body := body, defers := D })) (hK : ¬ Base.K l) :
    YieldAt Fence.wide n C.P l vs W (CallPost E M W Q) := by
  obtain ⟨hlen, h⟩ := T.sat_guard h
  have hlen := Nat.eq_of_beq_eq_true hlen
  refine ⟨fn, _, assign, body, run_yield hl (by have := hv.length; rw [hlen] at this; simpa using this), roundIn_of_wpIn trivial ?_⟩
  rw [T.sat_bind] at h
  have hI : In E M W [] ⟨putPs ps.toList args t0, M⟩ { tmps := (ps.zip vs).foldl (fun t (p, v) => t.setIfInBounds p v) us0, defers := [] } W := by
    refine ⟨⟨E, ?_, Step.refl hR⟩, rfl⟩
    have := putPs_rel (ps := ps.toList) hv ht
    simp only at this ⊢
    rw [← Array.foldl_toList, Array.toList_zip]
    exact this
  refine round_code hC hm hcall assign _ _ _ W ha h hI _ (fun ⟨_, _, hq⟩ => hq) fun x s a' W1 hk hI1 => ?_
  cases x with
  | exit id => exact hk.elim
  | goto l => exact hk.elim
  | ret => exact hk.elim
  | normal =>
    obtain ⟨⟨E1, hv1, hs1⟩, hd1⟩ := hI1
    have hl1 := hs1.keeps hR hl rfl
    refine ⟨_, run_beginRound hl1 rfl, ?_⟩
    have hk := T.sat_bind.1 hk
    have hR1 := hs1.rel.put hl1 rfl hK (.loop { state := .busy, pending := none, fn := fn, tmps := us0, params := ps, assign := assign, body := body, defers := D })
    refine round_code hC hm hcall body s _ a' _ hb hk ⟨⟨E1, hv1, Step.refl hR1⟩, hd1⟩ _ (fun ⟨_, _, hq⟩ => hq) fun x s2 a2 W2 hk2 hI2 => ?_
    cases x with
    | exit id => exact hk2.elim
    | goto l => exact hk2.elim
    | ret => exact hk2.elim
    | normal =>
      obtain ⟨⟨E2, hv2, hs2⟩, hd2⟩ := hI2
      obtain ⟨hl2, hs3⟩ := Step.around hs1.rel hl1 rfl hK rfl hs2
      refine ⟨_, _, run_endRound none hl2, _, rfl, E2, _, _, hk2, by simp only [VR, Option.isNone_none], ?_⟩
      simp only [Option.isNone_none, if_true]
      exact hs1.trans hs3
end
end Go.Proofs.YtnpggmdpokcakaaGreatDoor.AM
namespace Go.Proofs.YtnpggmdpokcakaaGreatDoor.AM
open Go.RowKit
variable [Base]
section
variable (C : Cfg) (call : Call) (nl : Nat) (yld : List AV → Mem → T (AV × Mem))
/-- The arguments of a call of yield. -/
noncomputable def yieldee (o : Oper) (s : St) : Option (List AV) :=
  match o.op with
  | .call c =>
    match c.callee with
    | .value f =>
      match s.eval f with
      | .fn (.yield n) [] [] => bif Nat.beq n nl then some (c.args.toList.map s.eval) else none
      | _ => none
    | _ => none
  | _ => none
noncomputable def stepY (ops : Array Oper) (o : Oper) (s : St) : T St :=
  match yieldee nl o s with
  | some args => gate ops s o ((yld args s.mem).bind fun r => .ret ⟨putT s.tmps o.dst r.1, r.2⟩) (.ret ⟨putT s.tmps o.dst (.v undef), s.mem⟩)
  | none => stepOp C call ops o s
noncomputable def evOpsY (ops : Array Oper) (l : List Oper) : St → T St := List.rec (motive := fun _ => St → T St) (fun s => .ret s) (fun o _ ih s => (stepY C call nl yld ops o s).bind ih) l
noncomputable def rgY (ops : Array Oper) (draw : Bool) (s : St) : T St :=
  match draw with
  | false => evOpsY C call nl yld ops ops.toList s
  | true => evDraw C call ops s
end
/-- What the calls of yield answer. -/
def YldOk (P : Program) (n l : Nat) (E0 : Env) (o : Obj) (yld : List AV → Mem → T (AV × Mem)) : Prop :=
  ∀ (args : List AV) (M : Mem) (Q : AV × Mem → Prop) (E : Env) (W : World) (vs : Array Value), (yld args M).sat Q → VRs E args vs.toList → R E M W → E0.le E → W.heap[l]? = some o → YieldAt Fence.wide n P l vs W (CallPost E M W Q)
section
variable {C : Cfg} {call : Call} {nl l n : Nat} {yld : List AV → Mem → T (AV × Mem)} {E0 : Env} {M0 : Mem} {w0 : World} {d0 : List Deferred} {ops : Array Oper} {ob : Obj}
theorem yieldee_some {o : Oper} {s : St} {args : List AV} (h : yieldee nl o s = some args) : ∃ c f, o.op = .call c ∧ c.callee = .value f ∧ s.eval f = .fn (.yield nl) [] [] ∧ args = c.args.toList.map s.eval := by
  unfold yieldee at h
  split at h
  · rename_i c hc
    split at h
    · rename_i f hf
      split at h
      · rename_i k hk
        cases hb : Nat.beq k nl with
        | false => rw [hb] at h; cases h
        | true =>
          rw [hb] at h
          injection h with h
          have := Nat.eq_of_beq_eq_true hb
          subst this
          exact ⟨c, f, hc, hf, hk, h.symm⟩
      · cases h
    · cases h
  · cases h
theorem stepY_sound (hC : C.Ok) (hcall : SoundCall C.P call) (hR0 : R E0 M0 w0) (hnl : E0 nl = some ⟨l, 0, 0⟩) (hl : w0.heap[l]? = some ob) (hc : ob.isCells = false) (hy : YldOk C.P (n - 1) l E0 ob yld)
    {o : Oper} {s : St} {K : St → Prop} {Q : Exit → Act → World → Prop} {a : Act} {w : World} (h : (stepY C call nl yld ops o s).sat K) (hI : In E0 M0 w0 d0 s a w) :
    (Region.wanted o (yielded ops a.tmps) = true ∧ o.wpIn Fence.wide n C.P a w (fun a' w' => ∃ s', K s' ∧ In E0 M0 w0 d0 s' a' w') Q) ∨ (Region.wanted o (yielded ops a.tmps) = false ∧ ∃ s', K s' ∧ In E0 M0 w0 d0 s' (a.put o.dst undef) w) := by
  unfold stepY at h
  split at h
  · rename_i args ha
    obtain ⟨c, f, ho, hf, hev, rfl⟩ := yieldee_some ha
    obtain ⟨⟨E, hv, hs⟩, hd⟩ := hI
    rcases gate_sound h (fun _ _ d _ _ => hv.get d) with ⟨hw, h⟩ | ⟨hw, h⟩
    · refine .inl ⟨hw, fun _ _ => trivial, ?_⟩
      rw [T.sat_bind] at h
      have hfv := eval_rel hv f
      rw [hev] at hfv
      simp only [VR, FR, VRs] at hfv
      obtain ⟨g, bs, cs, hfv, ⟨e, he, rfl⟩, hbs, hcs⟩ := hfv
      rw [hs.le _ _ hnl] at he
      injection he with he
      subst he
      have hbs : bs = #[] := by simpa using hbs
      have hcs : cs = #[] := by simpa using hcs
      subst hbs
      subst hcs
      have hargs : VRs E (c.args.toList.map s.eval) (c.args.map a.eval).toList := by
        rw [Array.toList_map]
        exact VRs.map _ fun x _ => eval_rel hv x
      obtain ⟨fn, tmps, assign, body, hrun, hround⟩ := hy _ _ _ E w _ h hargs hs.rel hs.le (hs.keeps hR0 hl hc)
      have e1 : (o.semAt Fence.wide.round a.eval).run C.P w = .ok (.round l fn tmps assign body) w := by
        have e2 : o.semAt Fence.wide.round a.eval = execOp a.eval o := Oper.semAt_none _ _
        rw [e2]
        have e3 : execOp a.eval o = (do let d ← Deferred.ofValue (a.eval f) (c.args.map a.eval); invoke d.target d.args) := by
          simp only [execOp, ho, resolve, hf]
        rw [e3, hfv]
        simp only [Deferred.ofValue, Sem.run_bind, Sem.run_pure, Result.andThen_ok, invoke, Array.empty_append]
        exact hrun
      rw [e1]
      refine ⟨fun hc => (by cases hc), hround.mono ?_⟩
      rintro en w'' ⟨u, rfl, E', v, M', hk, hvu, hs'⟩
      exact ⟨_, hk, ⟨⟨E', put_rel (hv.mono hs'.le) o.dst hvu, hs.trans hs'⟩, (put_defers a o.dst u).trans hd⟩⟩
    · exact .inr ⟨hw, _, h, ⟨⟨E, put_rel hv o.dst (by simp [VR]), hs⟩, (put_defers a o.dst undef).trans hd⟩⟩
  · rcases stepOp_sound hC hcall (Q := Q) h hI with ⟨hw, h⟩ | h
    · exact .inl ⟨hw, fun _ _ => trivial, by
        rw [show o.semAt Fence.wide.round a.eval = execOp a.eval o from Oper.semAt_none _ _]
        exact upon_wide (fun _ _ h => h) h⟩
    · exact .inr h
theorem evOpsY_sound (hC : C.Ok) (hcall : SoundCall C.P call) (hR0 : R E0 M0 w0) (hnl : E0 nl = some ⟨l, 0, 0⟩) (hl : w0.heap[l]? = some ob) (hc : ob.isCells = false) (hy : YldOk C.P (n - 1) l E0 ob yld)
    {K : St → Prop} {Q : Exit → Act → World → Prop} (hQ : ∀ s a w, K s → In E0 M0 w0 d0 s a w → Q .normal a w) :
    ∀ (t : List Oper) (k : Nat) (is : List Nat) (s : St) (a : Act) (w : World), is = List.range' k t.length → (∀ j, t[j]? = ops[k + j]?) → (evOpsY C call nl yld ops t s).sat K → In E0 M0 w0 d0 s a w → wpOpsIn Fence.wide n C.P ops Q is a w
  | [], k, is, s, a, w, his, _, h, hI => by
    subst his
    exact hQ s a w h hI
  | o :: rest, k, is, s, a, w, his, ht, h, hI => by
    subst his
    have h0 : ops[k]? = some o := by simpa using (ht 0).symm
    have ht' : ∀ j, rest[j]? = ops[k + 1 + j]? := fun j => by have := ht (j + 1); simpa [Nat.add_assoc, Nat.add_comm 1 j] using this
    have h := T.sat_bind.1 (show ((stepY C call nl yld ops o s).bind (evOpsY C call nl yld ops rest)).sat K from h)
    simp only [List.length_cons, List.range'_succ, wpOpsIn, h0]
    rcases stepY_sound hC hcall hR0 hnl hl hc hy (Q := Q) h hI with ⟨hw, h2⟩ | ⟨hw, s', h1, h2⟩
    · rw [if_pos hw]
      exact Oper.wpIn_mono (fun a' w' ⟨s', h1, h2⟩ => evOpsY_sound hC hcall hR0 hnl hl hc hy hQ rest (k + 1) _ s' a' w' rfl ht' h1 h2) h2
    · rw [if_neg (by rw [hw]; simp)]
      exact ⟨fun _ _ => trivial, evOpsY_sound hC hcall hR0 hnl hl hc hy hQ rest (k + 1) _ s' _ w rfl ht' h1 h2⟩
theorem rgY_ok (hC : C.Ok) (hm : C.P.follows .mixedOrders = true) (hcall : SoundCall C.P call) (hR0 : R E0 M0 w0) (hnl : E0 nl = some ⟨l, 0, 0⟩) (hl : w0.heap[l]? = some ob) (hc : ob.isCells = false) (hy : ∀ n, YldOk C.P n l E0 ob yld) : RgOk C.P E0 M0 w0 d0 (rgY C call nl yld) := by
  intro id ops draw s K a w h hI Q hQ
  cases draw with
  | false => exact wpIn_wide.1 (wpIn_region (n := 0) (evOpsY_sound hC hcall hR0 hnl hl hc (hy _) (fun s a w hk hI => hQ .normal s a w ⟨rfl, hk⟩ hI) ops.toList 0 _ s a w (by simp [List.range_eq_range']) (by simp) h hI))
  | true => exact evRegion_ok C call hC hm hcall id ops true s K a w h hI Q hQ
end
end Go.Proofs.YtnpggmdpokcakaaGreatDoor.AM
namespace Go.Proofs.YtnpggmdpokcakaaGreatDoor.AM
open Go.RowKit
variable [Base]
theorem enter_in {E : Env} {M : Mem} {w : World} {args : List AV} {us : Array Value} (nt : Nat) (hv : VRs E args us.toList) (hR : R E M w) :
    In E M w [] ⟨putAll 0 args (Tm.full (.v undef) (max nt args.length)), M⟩ { tmps := us ++ Array.replicate (nt - us.size) undef, defers := [] } w := by
  refine ⟨⟨E, ?_, Step.refl hR⟩, rfl⟩
  have hl := hv.length
  simp only [Array.length_toList] at hl
  have hbase : TR E (Tm.full (.v undef) (max nt args.length)) (Array.replicate (max nt args.length) undef) := TR.full _ _ (by simp) (fun i => by
    rw [Array.getD_eq_getD_getElem?, Array.getElem?_replicate]
    split <;> rfl)
  have := TR.putAll 0 hv hbase
  have e : (us.toList.zipIdx 0).foldl (fun ws p => ws.setIfInBounds p.2 p.1) (Array.replicate (max nt args.length) undef) = us ++ Array.replicate (nt - us.size) undef := by
    apply Array.ext'
    rw [foldl_args us.toList 0 _ [] rfl (by simp; omega) (by simp; omega)]
    simp only [List.nil_append, Array.toList_append, Array.toList_replicate, List.length_nil, Array.size_replicate, Nat.zero_add, Array.length_toList]
    congr 2
    omega
  rwa [e] at this
theorem leave_results {P : Program} {E0 : Env} {M0 : Mem} {w0 : World} {fn : Func} {s : St} {a : Act} {w : World} {Q : AV × Mem → Prop} {E : Env} (hR0 : R E0 M0 w0) (hv : TR E s.tmps a.tmps) (hs : Step E0 M0 w0 E s.mem w)
    (h : ((aResults P s fn.results.toList).bind fun vs => .ret (finish M0.length (one1 vs) s.mem) : T (AV × Mem)).sat Q) : ∃ v, (results fn a.tmps).run P w = .ok v w ∧ CallPost E0 M0 w0 Q (.returned v) w := by
  rw [T.sat_bind] at h
  obtain ⟨us', vs, h1, h2, h3⟩ := aResults_sound hv hs.rel h
  have hone : VR E (one1 vs) (if h : us'.toArray.size = 1 then us'.toArray[0] else .tuple us'.toArray) := by
    have hl := h3.length
    match vs, us', h3, hl with
    | [], [], h3, _ => simp only [one1]; simp [VR, VRs]
    | [v], [u], h3, _ =>
      simp only [VRs] at h3
      obtain ⟨u', us'', he, h4, h5⟩ := h3
      injection he with he1 he2
      subst he1
      simpa [one1] using h4
    | v :: v' :: vs, [], h3, hl => simp at hl
    | v :: v' :: vs, [_], h3, hl => simp at hl
    | v :: v' :: vs, u :: u' :: us, h3, hl =>
      simp only [one1]
      rw [dif_neg (by simp)]
      simp only [VR]
      exact ⟨_, rfl, by simpa using h3⟩
  refine ⟨_, ?_, _, rfl, _, _, _, h2, hone.ren gc_ren, gcStep hR0 hs (keepOf_ok _ _ _)⟩
  have he : results fn a.tmps = (do
      let vs ← List.toArray <$> (fn.results.toList.mapM (m := Sem) fun | .tmp t => pure (a.tmps.getD t undef) | .cell b t => do loadVar t (← asAddr (a.tmps.getD b undef)))
      pure (if h : vs.size = 1 then vs[0] else .tuple vs)) := by
    unfold results
    rw [Array.mapM_eq_mapM_toList]
    rfl
  rw [he]
  have h1 : (fn.results.toList.mapM (m := Sem) fun | .tmp t => pure (a.tmps.getD t undef) | .cell b t => do loadVar t (← asAddr (a.tmps.getD b undef))).run P w = .ok us' w := h1
  simp only [Sem.run_bind, map_eq_pure_bind, h1, Result.andThen_ok, Sem.run_pure]
noncomputable def evFnG (C : Cfg) (rg : Array Oper → Bool → St → T St) (L : Nat) (f : FuncId) (args : List AV) (M : Mem) : T (AV × Mem) :=
  match C.P.funcs[f]? with
  | some fn =>
    match fn.body with
    | some c => (evCode rg id L c ⟨putAll 0 args (Tm.full (.v undef) (max fn.ntmps args.length)), M⟩).bind fun r =>
      match r.1 with
      | .normal | .ret => (aResults C.P r.2 fn.results.toList).bind fun vs => .ret (finish M.length (one1 vs) r.2.mem)
      | _ => .fail
    | none => .fail
  | none => .fail
theorem evFnG_sound {C : Cfg} {rg : Array Oper → Bool → St → T St} {L : Nat} {f : FuncId} {args : List AV} {M : Mem} {Q : AV × Mem → Prop} {E : Env} {w : World} {us : Array Value} (hrg : RgOk C.P E M w [] rg)
    (h : (evFnG C rg L f args M).sat Q) (hv : VRs E args us.toList) (hR : R E M w) : Calls C.P f us w (CallPost E M w Q) := by
  unfold evFnG at h
  split at h
  · rename_i fn hf
    split at h
    · rename_i c hb
      rw [T.sat_bind] at h
      refine calls_of_wp hf hb ?_
      refine evCode_sound hrg (fun _ _ _ h => h) c _ _ _ w h (enter_in _ hv hR) _ fun x s a w' hk hI' => ?_
      obtain ⟨⟨E', hv', hs⟩, hd⟩ := hI'
      cases x with
      | normal => exact ⟨hd, leave_results hR hv' hs hk⟩
      | ret => exact ⟨hd, leave_results hR hv' hs hk⟩
      | exit id => exact hk.elim
      | goto l => exact hk.elim
    · exact h.elim
  · exact h.elim
/-! ### The statement -/
/-- The marks of loops that are done. -/
def markOf (D : Nat) : Deferred := { target := .collected D, args := #[] }
def MarksOk (w0 : World) (ds : List Deferred) (w : World) : Prop := ∃ Ds : List Nat, ds = Ds.map markOf ∧ Ds.Nodup ∧ ∀ D ∈ Ds, w0.heap.size ≤ D ∧ w.heap[D]? = some (.deferred (some []))
def InM (E0 : Env) (M0 : Mem) (w0 : World) (s : St) (a : Act) (w : World) : Prop := (∃ E, TR E s.tmps a.tmps ∧ Step E0 M0 w0 E s.mem w) ∧ MarksOk w0 a.defers w
theorem MarksOk.step {E E' : Env} {M M' : Mem} {w0 w w' : World} {ds : List Deferred} (h : MarksOk w0 ds w) (hR : R E M w) (hs : Step E M w E' M' w') : MarksOk w0 ds w' := by
  obtain ⟨Ds, h1, h2, h3⟩ := h
  exact ⟨Ds, h1, h2, fun D hD => ⟨(h3 D hD).1, hs.keeps hR (h3 D hD).2 rfl⟩⟩
section
variable (C : Cfg) (call : Call) (L : Nat)
noncomputable def rangeEv (g : Operand) (ps : Array Tmp) (assign body : Code) (s : St) : T St :=
  match s.eval g with
  | .fn (.func gf) [] caps =>
    T.guard (C.ent gf) (T.guard (simpleC assign) (T.guard (simpleC body)
      ((evFnG C (rgY C call s.mem.length (roundEv C call L ps.toList assign body s.tmps)) L gf (.fn (.yield s.mem.length) [] [] :: caps) (s.mem ++ [none])).bind fun r => .ret ⟨s.tmps, r.2⟩)))
  | _ => .fail
end
section
variable {C : Cfg} {call : Call} {L : Nat} {E0 : Env} {M0 : Mem} {w0 : World}
theorem rangeEv_sound (hC : C.Ok) (hm : C.P.follows .mixedOrders = true) (hcall : SoundCall C.P call) (hR0 : R E0 M0 w0) {g : Operand} {ps : Array Tmp} {assign body : Code} {s : St} {K : St → Prop} {a : Act} {w : World}
    (h : (rangeEv C call L g ps assign body s).sat K) (hI : InM E0 M0 w0 s a w) {Q : Exit → Act → World → Prop} (hQ : ∀ s a w, K s → InM E0 M0 w0 s a w → Q .normal a w) : (Code.rangeFunc g ps assign body).wp C.P Q a w := by
  obtain ⟨⟨E, hv, hs⟩, hM⟩ := hI
  unfold rangeEv at h
  split at h
  · rename_i gf caps hg
    obtain ⟨hent, h⟩ := T.sat_guard h
    obtain ⟨ha, h⟩ := T.sat_guard h
    obtain ⟨hb, h⟩ := T.sat_guard h
    rw [T.sat_bind] at h
    have hgv := eval_rel hv g
    rw [hg] at hgv
    simp only [VR, FR, VRs] at hgv
    obtain ⟨gg, bs, lb, hgv, rfl, hbs, hlb⟩ := hgv
    have hbs : bs = #[] := by simpa using hbs
    subst hbs
    refine wpIn_wide.1 (wpIn_rangeFunc (n := 0) fun fn _ => ?_)
    obtain ⟨rec, hrec⟩ : ∃ rec : Loop, rec = { state := .ready, pending := none, fn, tmps := a.tmps, params := ps, assign, body, defers := w.heap.size } := ⟨_, rfl⟩
    obtain ⟨W1, hW1⟩ : ∃ W1, (w.alloc (.deferred (some []))).alloc (.loop rec) = W1 := ⟨_, rfl⟩
    have hL1 : W1.heap[w.heap.size + 1]? = some (.loop rec) := by
      rw [← hW1]; have := World.alloc_heap_new (w.alloc (.deferred (some []))) (.loop rec); rwa [World.size_alloc] at this
    have hD1 : W1.heap[w.heap.size]? = some (.deferred (some [])) := by
      rw [← hW1]; exact (Below.heap_alloc _ _ _ (by simp)).trans (World.alloc_heap_new w _)
    have hs1 : Step E s.mem w E s.mem W1 := by
      rw [← hW1]
      exact (Step.other hs.rel _).trans (Step.other (Step.other hs.rel _).rel _)
    have hsn := Step.name hs1.rel (l := w.heap.size + 1) (Array.getElem?_eq_some_iff.1 hL1).1
    have hKl : ¬ Base.K (w.heap.size + 1) := fun hk => by have := hs.rel.gle _ hk; omega
    have hR1 := hsn.rel
    refine ⟨w.heap.size + 1, [markOf w.heap.size], W1, { target := .fn (.func gf) lb, args := #[.func (.yield (w.heap.size + 1)) #[] #[]] }, W1, gf, #[Value.func (.yield (w.heap.size + 1)) #[] #[]] ++ lb, W1, ?_, ?_, fun _ _ => trivial, ?_, fun hc => (by cases hc), ?_⟩
    · rw [← hW1, hrec]; exact run_enterLoop_outer _ _ _ _ _
    · simp only [resolve, hgv]
      simp [go_sem]
    · simp only [invoke]
      exact hC.ent gf hent _ _
    · refine callsIn_wide.2 ?_
      have hrg : RgOk C.P (E.put s.mem.length ⟨w.heap.size + 1, 0, 0⟩) (s.mem ++ [none]) W1 [] (rgY C call s.mem.length (roundEv C call L ps.toList assign body s.tmps)) := by
        refine rgY_ok hC hm hcall hR1 (Env.put_self _ _ _) hL1 rfl fun n args M Q E' W vs hq hvs hR' hle hW => ?_
        rw [hrec] at hW
        exact round_sound hC hm hcall n ha hb hq (hv.mono (Env.le_trans hsn.le hle)) hR' hvs hW hKl
      have hargs : VRs (E.put s.mem.length ⟨w.heap.size + 1, 0, 0⟩) (.fn (.yield s.mem.length) [] [] :: caps) (#[Value.func (.yield (w.heap.size + 1)) #[] #[]] ++ lb).toList := by
        simp only [Array.toList_append, List.cons_append, List.nil_append, VRs]
        refine ⟨_, _, rfl, ?_, hlb.mono hsn.le⟩
        simp only [VR, FR, VRs]
        exact ⟨_, #[], #[], rfl, ⟨_, Env.put_self _ _ _, rfl⟩, rfl, rfl⟩
      refine (evFnG_sound hrg h hargs hR1).mono ?_
      rintro e W2 ⟨u, rfl, E2, v, M2, hk, hvu, hs2⟩
      have hL2 := hs2.keeps hR1 hL1 rfl
      have hD2 := hs2.keeps hR1 hD1 rfl
      refine ⟨none, _, by have := run_endLoop (P := C.P) hL2 (by rw [hrec]; simp); rw [hrec] at this; exact this, ?_⟩
      have hall := (hs1.trans hsn).trans hs2
      have hsz := hs.size
      refine hQ _ _ _ hk ⟨⟨E2, hv.mono hall.le, hs.trans (hall.then_put (by omega) hL2 rfl hKl _)⟩, ?_⟩
      obtain ⟨Ds, h1, h2, h3⟩ := hM
      have hlt : ∀ D ∈ Ds, D < w.heap.size := fun D hD => (Array.getElem?_eq_some_iff.1 (h3 D hD).2).1
      refine ⟨w.heap.size :: Ds, by simp [h1], List.nodup_cons.2 ⟨fun hm => by have := hlt _ hm; omega, h2⟩, fun D hD => ?_⟩
      rcases List.mem_cons.1 hD with rfl | hD
      · exact ⟨hsz, (World.putObj_heap_other (by omega)).trans hD2⟩
      · have := hlt D hD
        exact ⟨(h3 D hD).1, (World.putObj_heap_other (by omega)).trans (hall.keeps hs.rel (h3 D hD).2 rfl)⟩
  · exact h.elim
end
end Go.Proofs.YtnpggmdpokcakaaGreatDoor.AM
namespace Go.Proofs.YtnpggmdpokcakaaGreatDoor.AM
open Go.RowKit
variable [Base]
section
variable (C : Cfg) (call : Call) (L : Nat)
noncomputable def evS (c : Code) : St → T (X × St) :=
  Code.rec (motive := fun _ => St → T (X × St))
    (fun s => .ret (.normal, s))
    (fun i ops draw => evCode (evRegion C call) id L (.region i ops draw))
    (fun _ _ A B s => (A s).bind fun r => match r.1 with
      | .normal => B r.2
      | x => .ret (x, r.2))
    (fun c _ _ A B s => match s.eval c with
      | .v (.bool t) => .ite t (A s) (B s)
      | _ => .fail)
    (fun id _ A s => (A s).bind fun r => match r.1 with
      | .exit id' => bif Nat.beq id' id then .ret (.normal, r.2) else .ret (.exit id', r.2)
      | x => .ret (x, r.2))
    (fun c _ => evCode (evRegion C call) id L (.loop c))
    (fun g ps assign body _ _ s => (rangeEv C call L g ps assign body s).bind fun s' => .ret (.normal, s'))
    (fun id s => .ret (.exit id, s))
    (fun c _ => evCode (evRegion C call) id L (.scope c))
    (fun _ _ => .fail)
    (fun l s => .ret (.goto l, s))
    (fun s => .ret (.ret, s))
    (fun _ _ => .fail) c
noncomputable def evFnS (f : FuncId) (args : List AV) (M : Mem) : T (AV × Mem) :=
  match C.P.funcs[f]? with
  | some fn =>
    match fn.body with
    | some c => (evS C call L c ⟨putAll 0 args (Tm.full (.v undef) (max fn.ntmps args.length)), M⟩).bind fun r =>
      match r.1 with
      | .normal | .ret => (aResults C.P r.2 fn.results.toList).bind fun vs => .ret (finish M.length (one1 vs) r.2.mem)
      | _ => .fail
    | none => .fail
  | none => .fail
end
section
variable {C : Cfg} {call : Call} {L : Nat} {E0 : Env} {M0 : Mem} {w0 : World}
def WPm (P : Program) (E0 : Env) (M0 : Mem) (w0 : World) (c : Code) (K : X × St → Prop) (a : Act) (w : World) : Prop :=
  ∀ (Q : Exit → Act → World → Prop), (∀ x s a w, K (x, s) → InM E0 M0 w0 s a w → Q x.real a w) → c.wp P Q a w
theorem leaf_sound (hC : C.Ok) (hm : C.P.follows .mixedOrders = true) (hcall : SoundCall C.P call) (c : Code) {s : St} {K : X × St → Prop} {a : Act} {w : World} (h : (evCode (evRegion C call) id L c s).sat K) (hI : InM E0 M0 w0 s a w) : WPm C.P E0 M0 w0 c K a w := by
  intro Q hQ
  obtain ⟨⟨E, hv, hs⟩, hM⟩ := hI
  refine evCode_sound (evRegion_ok C call hC hm hcall) (fun _ _ _ h => h) c s K a w h (E0 := E) (M0 := s.mem) (w0 := w) (d0 := a.defers) ⟨⟨E, hv, Step.refl hs.rel⟩, rfl⟩ Q fun x s' a' w' hk hI' => ?_
  obtain ⟨⟨E', hv', hs'⟩, hd'⟩ := hI'
  exact hQ x s' a' w' hk ⟨⟨E', hv', hs.trans hs'⟩, hd' ▸ hM.step hs.rel hs'⟩
theorem evS_sound (hC : C.Ok) (hm : C.P.follows .mixedOrders = true) (hcall : SoundCall C.P call) (hR0 : R E0 M0 w0) :
    ∀ (c : Code) (s : St) (K : X × St → Prop) (a : Act) (w : World), (evS C call L c s).sat K → InM E0 M0 w0 s a w → WPm C.P E0 M0 w0 c K a w
  | .skip, s, K, a, w, h, hI => fun Q hQ => wp_skip (hQ .normal s a w h hI)
  | .exit id, s, K, a, w, h, hI => fun Q hQ => wp_exit (hQ (.exit id) s a w h hI)
  | .goto l, s, K, a, w, h, hI => fun Q hQ => wp_goto (hQ (.goto l) s a w h hI)
  | .ret, s, K, a, w, h, hI => fun Q hQ => wp_ret (hQ .ret s a w h hI)
  | .label _, s, K, a, w, h, hI => (show False from h).elim
  | .refuse _, s, K, a, w, h, hI => (show False from h).elim
  | .region id ops draw, s, K, a, w, h, hI => leaf_sound hC hm hcall _ h hI
  | .loop c, s, K, a, w, h, hI => leaf_sound hC hm hcall _ h hI
  | .scope c, s, K, a, w, h, hI => leaf_sound hC hm hcall _ h hI
  | .rangeFunc g ps assign body, s, K, a, w, h, hI => by
    have h := T.sat_bind.1 (show ((rangeEv C call L g ps assign body s).bind fun s' => .ret (.normal, s')).sat K from h)
    intro Q hQ
    exact rangeEv_sound hC hm hcall hR0 h hI fun s a w hk hI => hQ .normal s a w hk hI
  | .seq A B, s, K, a, w, h, hI => by
    have h := T.sat_bind.1 (show ((evS C call L A s).bind fun r => match r.1 with
      | .normal => evS C call L B r.2
      | x => .ret (x, r.2)).sat K from h)
    intro Q hQ
    refine wp_seq (evS_sound hC hm hcall hR0 A s _ a w h hI _ fun x s' a' w' hk hI' => ?_)
    cases x with
    | normal => exact evS_sound hC hm hcall hR0 B s' K a' w' hk hI' Q hQ
    | exit id => exact hQ (.exit id) s' a' w' hk hI'
    | goto l => exact hQ (.goto l) s' a' w' hk hI'
    | ret => exact hQ .ret s' a' w' hk hI'
  | .cond c A B, s, K, a, w, h, hI => by
    have h : (match s.eval c with
      | .v (.bool t) => .ite t (evS C call L A s) (evS C call L B s)
      | _ => .fail : T (X × St)).sat K := h
    split at h
    · rename_i t ht
      intro Q hQ
      have hI' := hI
      obtain ⟨⟨E, hv, hs⟩, hM⟩ := hI
      have hc := eval_rel hv c
      rw [ht] at hc
      simp only [VR] at hc
      refine wp_cond hc ?_
      cases t
      · exact evS_sound hC hm hcall hR0 B s K a w (h.2 rfl) hI' Q hQ
      · exact evS_sound hC hm hcall hR0 A s K a w (h.1 rfl) hI' Q hQ
    · exact h.elim
  | .block id c, s, K, a, w, h, hI => by
    have h := T.sat_bind.1 (show ((evS C call L c s).bind fun r => match r.1 with
      | .exit id' => bif Nat.beq id' id then .ret (.normal, r.2) else .ret (.exit id', r.2)
      | x => .ret (x, r.2)).sat K from h)
    intro Q hQ
    refine wp_block (evS_sound hC hm hcall hR0 c s _ a w h hI _ fun x s' a' w' hk hI' => ?_)
    cases x with
    | normal => exact hQ .normal s' a' w' hk hI'
    | exit id' =>
      simp only [X.real, Exit.inBlock]
      have hk : (bif Nat.beq id' id then .ret (.normal, s') else .ret (.exit id', s') : T (X × St)).sat K := hk
      cases he : Nat.beq id' id with
      | true =>
        rw [he] at hk
        rw [if_pos (Nat.eq_of_beq_eq_true he)]
        exact hQ .normal s' a' w' hk hI'
      | false =>
        rw [he] at hk
        rw [if_neg (fun e => by subst e; simp at he)]
        exact hQ (.exit id') s' a' w' hk hI'
    | goto l => exact hQ (.goto l) s' a' w' hk hI'
    | ret => exact hQ .ret s' a' w' hk hI'
/-- Leaving with marks. -/
theorem leaves_marks {P : Program} {fn : Func} {s : St} {tmps : Array Value} {Q : AV × Mem → Prop} {E : Env} (hR0 : R E0 M0 w0) (hv : TR E s.tmps tmps)
    (h : ((aResults P s fn.results.toList).bind fun vs => .ret (finish M0.length (one1 vs) s.mem) : T (AV × Mem)).sat Q) :
    ∀ (Ds : List Nat) (w : World), Step E0 M0 w0 E s.mem w → Ds.Nodup → (∀ D ∈ Ds, w0.heap.size ≤ D ∧ w.heap[D]? = some (.deferred (some []))) → LeavesInM Fence.wide 0 P fn tmps (CallPost E0 M0 w0 Q) (Ds.map markOf) .returning w
  | [], w, hs, _, _ => leave_results (a := ⟨tmps, []⟩) hR0 hv hs h
  | D :: Ds, w, hs, hn, hD => by
    have h1 := hD D List.mem_cons_self
    have hn' := List.nodup_cons.1 hn
    refine ⟨by simp, .inl ⟨D, _, rfl, run_takeDeferred h1.2, ?_⟩⟩
    refine leaves_marks hR0 hv h Ds _ (hs.then_put h1.1 h1.2 rfl (fun hk => by have := hR0.gle _ hk; omega) _) hn'.2 fun D' hD' => ?_
    have h2 := hD D' (List.mem_cons_of_mem _ hD')
    exact ⟨h2.1, (World.putObj_heap_other (k := D') (r := D) (fun e => hn'.1 (by rw [← e]; exact hD'))).trans h2.2⟩
theorem evFnS_sound (hC : C.Ok) (hm : C.P.follows .mixedOrders = true) (hcall : SoundCall C.P call) : SoundCall C.P (evFnS C call L) := by
  intro f args M Q E w us h hv hR
  unfold evFnS at h
  split at h
  · rename_i fn hf
    split at h
    · rename_i c hb
      rw [T.sat_bind] at h
      have hI := enter_in fn.ntmps hv hR
      refine callsIn_wide.1 (callsIn_of_wp_marks (n := 0) hf hb trivial (wpIn_wide.2 ?_))
      refine evS_sound hC hm hcall hR c _ _ _ w h ⟨hI.ex, [], by rw [hI.defers]; rfl, List.nodup_nil, fun D hD => by cases hD⟩ _ fun x s a w' hk hI' => ?_
      obtain ⟨⟨E', hv', hs⟩, Ds, hd, hn, hD⟩ := hI'
      cases x with
      | normal => show LeavesInM Fence.wide 0 C.P fn a.tmps _ a.defers .returning w'; rw [hd]; exact leaves_marks hR hv' hk Ds w' hs hn hD
      | ret => show LeavesInM Fence.wide 0 C.P fn a.tmps _ a.defers .returning w'; rw [hd]; exact leaves_marks hR hv' hk Ds w' hs hn hD
      | exit id => exact hk.elim
      | goto l => exact hk.elim
    · exact h.elim
  · exact h.elim
end
/-! ### Functions that call functions -/
noncomputable def evP (C : Cfg) (O : Oracle) (RF : FuncId → Bool) (H : FuncId → Option (List Nat)) (L : Nat) : Nat → Call
  | 0 => fun f args M => match O f with
    | some g => g args M
    | none => .fail
  | n + 1 => fun f args M => match O f with
    | some g => g args M
    | none => match RF f with
      | true => evFnS C (evP C O RF H L n) L f args M
      | false => evFn C (evP C O RF H L n) H L f args M
theorem evP_sound {C : Cfg} {O : Oracle} {RF : FuncId → Bool} (hC : C.Ok) (hm : C.P.follows .mixedOrders = true) (hO : SoundOracle C.P O) (H : FuncId → Option (List Nat)) (L : Nat) : ∀ n, SoundCall C.P (evP C O RF H L n)
  | 0, f, args, M, Q, E, w, us, h, hv, hR => by
    simp only [evP] at h
    cases hf : O f with
    | some g => rw [hf] at h; exact hO f g hf args M Q E w us h hv hR
    | none => rw [hf] at h; exact h.elim
  | n + 1, f, args, M, Q, E, w, us, h, hv, hR => by
    simp only [evP] at h
    cases hf : O f with
    | some g => rw [hf] at h; exact hO f g hf args M Q E w us h hv hR
    | none =>
      rw [hf] at h
      cases hr : RF f with
      | true => rw [hr] at h; exact evFnS_sound hC hm (evP_sound hC hm hO H L n) f args M Q E w us h hv hR
      | false => rw [hr] at h; exact evFn_sound hC hm (evP_sound hC hm hO H L n) H L f args M Q E w us h hv hR
end Go.Proofs.YtnpggmdpokcakaaGreatDoor.AM
namespace Go.Proofs.YtnpggmdpokcakaaGreatDoor.AM
open Go.RowKit
def vEq : Value → Value → Bool
  | .int k n, .int k' n' => decide (k = k') && decide (n = n')
  | .bool a, .bool b => a == b
  | .slice none a b, .slice none a' b' => Nat.beq a a' && Nat.beq b b'
  | .nilFunc, .nilFunc => true
  | .string a, .string b => decide (a.data.toList = b.data.toList)
  | _, _ => false
theorem nb {a b : Nat} (h : Nat.beq a b = true) : a = b := Nat.eq_of_beq_eq_true h
theorem vEq_ok : ∀ {x y : Value}, vEq x y = true → x = y := by
  intro x y h
  unfold vEq at h
  split at h
  · simp only [Bool.and_eq_true, decide_eq_true_eq] at h; rw [h.1, h.2]
  · simp only [beq_iff_eq] at h; rw [h]
  · simp only [Bool.and_eq_true] at h; rw [nb h.1, nb h.2]
  · rfl
  · rename_i a b
    simp only [decide_eq_true_eq] at h
    obtain ⟨⟨l⟩⟩ := a
    obtain ⟨⟨m⟩⟩ := b
    simp only at h
    rw [h]
  · cases h
def cpEq : Cp → Cp → Bool
  | .any, .any => true
  | .whole, .whole => true
  | .ex k, .ex k' => Nat.beq k k'
  | _, _ => false
theorem cpEq_ok : ∀ {x y : Cp}, cpEq x y = true → x = y
  | .any, .any, _ => rfl
  | .whole, .whole, _ => rfl
  | .ex k, .ex k', h => by simp only [cpEq] at h; rw [nb h]
  | .any, .whole, h | .any, .ex _, h | .whole, .any, h | .whole, .ex _, h | .ex _, .any, h | .ex _, .whole, h => by cases h
mutual
def AV.eqb : AV → AV → Bool
  | .bot, .bot => true
  | .v x, .v y => vEq x y
  | .ptr n o, .ptr n' o' => Nat.beq n n' && Nat.beq o o'
  | .sl n o l c, .sl n' o' l' c' => Nat.beq n n' && (Nat.beq o o' && (Nat.beq l l' && cpEq c c'))
  | .agg xs, .agg ys => AV.eqbs xs ys
  | .tup xs, .tup ys => AV.eqbs xs ys
  | .fn f b c, .fn f' b' c' => decide (f = f') && (AV.eqbs b b' && AV.eqbs c c')
  | .ifc t x, .ifc t' y => Nat.beq t t' && AV.eqb x y
  | _, _ => false
def AV.eqbs : List AV → List AV → Bool
  | [], [] => true
  | a :: as, b :: bs => AV.eqb a b && AV.eqbs as bs
  | _, _ => false
end
mutual
theorem AV.eqb_ok : ∀ {x y : AV}, AV.eqb x y = true → x = y
  | .bot, y, h => by cases y <;> first | rfl | simp [AV.eqb] at h
  | .v x, y, h => by cases y <;> first | (simp only [AV.eqb] at h; rw [vEq_ok h]) | simp [AV.eqb] at h
  | .ptr n o, y, h => by cases y <;> first | (simp only [AV.eqb, Bool.and_eq_true] at h; rw [nb h.1, nb h.2]) | simp [AV.eqb] at h
  | .sl n o l c, y, h => by cases y <;> first | (simp only [AV.eqb, Bool.and_eq_true] at h; rw [nb h.1, nb h.2.1, nb h.2.2.1, cpEq_ok h.2.2.2]) | simp [AV.eqb] at h
  | .agg xs, y, h => by cases y <;> first | (simp only [AV.eqb] at h; rw [AV.eqbs_ok h]) | simp [AV.eqb] at h
  | .tup xs, y, h => by cases y <;> first | (simp only [AV.eqb] at h; rw [AV.eqbs_ok h]) | simp [AV.eqb] at h
  | .fn f b c, y, h => by cases y <;> first | (simp only [AV.eqb, Bool.and_eq_true, decide_eq_true_eq] at h; rw [h.1, AV.eqbs_ok h.2.1, AV.eqbs_ok h.2.2]) | simp [AV.eqb] at h
  | .ifc t x, y, h => by cases y <;> first | (simp only [AV.eqb, Bool.and_eq_true] at h; rw [nb h.1, AV.eqb_ok h.2]) | simp [AV.eqb] at h
theorem AV.eqbs_ok : ∀ {xs ys : List AV}, AV.eqbs xs ys = true → xs = ys
  | [], ys, h => by cases ys <;> first | rfl | simp [AV.eqbs] at h
  | x :: xs, ys, h => by cases ys <;> first | (simp only [AV.eqbs, Bool.and_eq_true] at h; rw [AV.eqb_ok h.1, AV.eqbs_ok h.2]) | simp [AV.eqbs] at h
end
def abEq : Option AB → Option AB → Bool
  | none, none => true
  | some a, some b => (a.own == b.own) && ((a.flat == b.flat) && (Nat.beq a.elem b.elem && (Nat.beq a.sz b.sz && AV.eqbs a.cells b.cells)))
  | _, _ => false
theorem abEq_ok : ∀ {x y : Option AB}, abEq x y = true → x = y
  | none, none, _ => rfl
  | some a, some b, h => by
    obtain ⟨a1, a2, a3, a4, a5⟩ := a
    obtain ⟨b1, b2, b3, b4, b5⟩ := b
    simp only [abEq, Bool.and_eq_true, beq_iff_eq] at h
    obtain ⟨h1, h2, h3, h4, h5⟩ := h
    rw [h1, h2, nb h3, nb h4, AV.eqbs_ok h5]
  | none, some _, h | some _, none, h => by cases h
def memEq : Mem → Mem → Bool
  | [], [] => true
  | a :: as, b :: bs => abEq a b && memEq as bs
  | _, _ => false
theorem memEq_ok : ∀ {x y : Mem}, memEq x y = true → x = y
  | [], [], _ => rfl
  | a :: as, b :: bs, h => by simp only [memEq, Bool.and_eq_true] at h; rw [abEq_ok h.1, memEq_ok h.2]
  | [], _ :: _, h | _ :: _, [], h => by cases h
variable [Base]
noncomputable def memo (f0 : FuncId) (A0 : List AV) (M0 : Mem) (R0 : AV × Mem) (O : Oracle) : Oracle := fun f =>
  bif Nat.beq f f0 then some (fun args M => bif AV.eqbs args A0 && memEq M M0 then .ret R0 else match O f with
    | some g => g args M
    | none => .fail) else O f
theorem memo_sound {P : Program} {call : Call} {f0 : FuncId} {A0 : List AV} {M0 : Mem} {R0 : AV × Mem} {O : Oracle} (hcall : SoundCall P call) (hrun : (call f0 A0 M0).run = some R0) (hO : SoundOracle P O) : SoundOracle P (memo f0 A0 M0 R0 O) := by
  intro f g hg args M Q E w us h hv hR
  unfold memo at hg
  cases hf : Nat.beq f f0 with
  | false => rw [hf] at hg; exact hO f g hg args M Q E w us h hv hR
  | true =>
    rw [hf] at hg
    injection hg with hg
    have hf := Nat.eq_of_beq_eq_true hf
    subst hf
    subst hg
    cases hb : AV.eqbs args A0 && memEq M M0 with
    | true =>
      simp only [hb, cond_true] at h
      simp only [Bool.and_eq_true] at hb
      obtain rfl := AV.eqbs_ok hb.1
      obtain rfl := memEq_ok hb.2
      exact hcall f args M Q E w us (T.sat_of_run hrun h) hv hR
    | false =>
      simp only [hb, cond_false] at h
      cases hO' : O f with
      | some g => rw [hO'] at h; exact hO f g hO' args M Q E w us h hv hR
      | none => rw [hO'] at h; exact h.elim
end Go.Proofs.YtnpggmdpokcakaaGreatDoor.AM
namespace Go.Proofs.YtnpggmdpokcakaaGreatDoor.AM
open Go.RowKit
def seqL : Code → Code
  | .seq a _ => a
  | c => c
def seqR : Code → Code
  | .seq _ b => b
  | c => c
def isSeq : Code → Bool
  | .seq _ _ => true
  | _ => false
def sr : Nat → Code → Code
  | 0, c => c
  | k + 1, c => seqR (sr k c)
variable [Base]
theorem piece {rg : Array Oper → Bool → St → T St} {hd : St → St} {L k : Nat} {c0 : Code} {s s' : St} {r : X × St} (hs : isSeq (sr k c0) = true) (h : (evCode rg hd L (seqL (sr k c0)) s).run = some (.normal, s')) (h2 : (evCode rg hd L (sr (k + 1) c0) s').run = some r) :
    (evCode rg hd L (sr k c0) s).run = some r := by
  have h2 : (evCode rg hd L (seqR (sr k c0)) s').run = some r := h2
  generalize sr k c0 = c at hs h h2 ⊢
  cases c with
  | seq a b =>
    show ((evCode rg hd L a s).bind fun r => X.rec (evCode rg hd L b r.2) (fun id => .ret (.exit id, r.2)) (fun l => .ret (.goto l, r.2)) (.ret (.ret, r.2)) r.1).run = some r
    rw [T.run_bind]
    rw [show (evCode rg hd L a s).run = some (.normal, s') from h]
    exact h2
  | _ => cases hs
def bodyOf (P : Program) (f : FuncId) : Code :=
  match P.funcs[f]? with
  | some fn => match fn.body with
    | some c => c
    | none => .skip
  | none => .skip
noncomputable def enterSt (P : Program) (f : FuncId) (args : List AV) (M : Mem) : St :=
  match P.funcs[f]? with
  | some fn => ⟨putAll 0 args (Tm.full (.v undef) (max fn.ntmps args.length)), M⟩
  | none => ⟨Tm.full .bot 0, M⟩
noncomputable def leaveR (P : Program) (f : FuncId) (M : Mem) (r : X × St) : T (AV × Mem) :=
  match P.funcs[f]? with
  | some fn => match r.1 with
    | .normal | .ret => (aResults P r.2 fn.results.toList).bind fun vs => .ret (finish M.length (one1 vs) r.2.mem)
    | _ => .fail
  | none => .fail
theorem evFn_pieces {C : Cfg} {call : Call} {H : FuncId → Option (List Nat)} {L : Nat} {f : FuncId} {args : List AV} {M : Mem} {r : X × St} {z : AV × Mem} (hf : (C.P.funcs[f]?.bind (·.body)).isSome = true)
    (h : (evCode (evRegion C call) (tidy M.length (H f)) L (sr 0 (bodyOf C.P f)) (enterSt C.P f args M)).run = some r) (hz : (leaveR C.P f M r).run = some z) : (evFn C call H L f args M).run = some z := by
  unfold evFn
  unfold bodyOf enterSt at h
  unfold leaveR at hz
  cases hq : C.P.funcs[f]? with
  | none => rw [hq] at hf; cases hf
  | some fn =>
    rw [hq] at h hz hf
    simp only [Option.bind_some] at hf
    simp only at h hz ⊢
    cases hb : fn.body with
    | none => rw [hb] at hf; cases hf
    | some c =>
      rw [hb] at h
      simp only [sr] at h ⊢
      rw [T.run_bind, h]
      exact hz
end Go.Proofs.YtnpggmdpokcakaaGreatDoor.AM
