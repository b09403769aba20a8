namespace Go.Proofs.YtnpggmdpokcakaaGreatDoor.Sp
structure Cl where
  base : Int
  lapse : Int
  swing : Int
  wet : Int
  cold : Int
  warm : Int
  flo : Int
  fhi : Int
structure W where
  day : Int
  temp : Int
  rain : Int
deriving DecidableEq, Inhabited

def okCl (c : Cl) : Prop := (0 ≤ c.base ∧ c.base ≤ 9000) ∧ (0 ≤ c.lapse ∧ c.lapse ≤ 20) ∧ (0 ≤ c.swing ∧ c.swing ≤ 600) ∧ (0 ≤ c.wet ∧ c.wet ≤ 1000) ∧ (-600 ≤ c.cold ∧ c.cold ≤ c.warm ∧ c.warm ≤ 600) ∧ (0 ≤ c.flo ∧ c.flo ≤ c.fhi ∧ c.fhi ≤ 2000 ∧ c.fhi - c.flo ≤ 50)
instance (c : Cl) : Decidable (okCl c) := by unfold okCl; infer_instance
def okW (c : Cl) (w : W) : Prop := (0 ≤ w.day ∧ w.day ≤ 1048576) ∧ (c.cold ≤ w.temp ∧ w.temp ≤ c.warm) ∧ (0 ≤ w.rain ∧ w.rain ≤ c.wet)
instance (c : Cl) (w : W) : Decidable (okW c w) := by unfold okW; infer_instance
def ab (x : Int) : Int := max x (-x)
def near (c : Cl) (v w : W) : Prop := ab (v.temp - w.temp) ≤ c.swing * ab (v.day - w.day)
instance (c : Cl) (v w : W) : Decidable (near c v w) := by unfold near; infer_instance

/-- All are of the climate, the days increase, neighbours can both be. -/
def linked (c : Cl) : List W → Prop
  | [] => True
  | [w] => okW c w
  | v :: w :: l => okW c v ∧ (v.day < w.day ∧ near c v w) ∧ linked c (w :: l)
instance linkedDec (c : Cl) : (l : List W) → Decidable (linked c l)
  | [] => inferInstanceAs (Decidable True)
  | [w] => inferInstanceAs (Decidable (okW c w))
  | _ :: w :: l => @instDecidableAnd _ _ _ (@instDecidableAnd _ _ _ (linkedDec c (w :: l)))

theorem near_refl (c : Cl) (v : W) : near c v v := by unfold near ab; simp
theorem near_symm {c : Cl} {v w : W} (h : near c v w) : near c w v := by
  unfold near at *
  rw [show ab (w.day - v.day) = ab (v.day - w.day) from by unfold ab; omega]
  have : ab (w.temp - v.temp) = ab (v.temp - w.temp) := by unfold ab; omega
  omega
theorem near_trans {c : Cl} {u v w : W} (h1 : near c u v) (h2 : near c v w) (hb : (u.day ≤ v.day ∧ v.day ≤ w.day) ∨ (w.day ≤ v.day ∧ v.day ≤ u.day)) : near c u w := by
  unfold near at *
  have e : ab (u.day - w.day) = ab (u.day - v.day) + ab (v.day - w.day) := by unfold ab; omega
  rw [e, Int.mul_add]
  have : ab (u.temp - w.temp) ≤ ab (u.temp - v.temp) + ab (v.temp - w.temp) := by unfold ab; omega
  omega

theorem linked_tail {c : Cl} {v : W} {l : List W} (h : linked c (v :: l)) : linked c l := by
  cases l with
  | nil => trivial
  | cons w l => exact h.2.2
theorem linked_ok {c : Cl} {l : List W} (h : linked c l) : ∀ w ∈ l, okW c w := by
  induction l with
  | nil => intro w hw; cases hw
  | cons v l ih =>
    intro w hw
    rcases List.mem_cons.1 hw with rfl | hw
    · cases l with
      | nil => exact h
      | cons x l => exact h.1
    · exact ih (linked_tail h) w hw
theorem linked_head {c : Cl} {v : W} {l : List W} (h : linked c (v :: l)) : ∀ w ∈ l, v.day < w.day ∧ near c v w := by
  induction l generalizing v with
  | nil => intro w hw; cases hw
  | cons x l ih =>
    intro w hw
    obtain ⟨h1, ⟨h2, h3⟩, h4⟩ := h
    rcases List.mem_cons.1 hw with rfl | hw
    · exact ⟨h2, h3⟩
    · obtain ⟨h5, h6⟩ := ih h4 w hw
      exact ⟨by omega, near_trans h3 h6 (.inl ⟨by omega, by omega⟩)⟩
theorem linked_near {c : Cl} {l : List W} (h : linked c l) : ∀ v ∈ l, ∀ w ∈ l, near c v w := by
  induction l with
  | nil => intro v hv; cases hv
  | cons x l ih =>
    intro v hv w hw
    rcases List.mem_cons.1 hv with rfl | hv'
    · rcases List.mem_cons.1 hw with rfl | hw'
      · exact near_refl _ _
      · exact (linked_head h w hw').2
    · rcases List.mem_cons.1 hw with rfl | hw'
      · exact near_symm (linked_head h v hv').2
      · exact ih (linked_tail h) v hv' w hw'
theorem linked_day {c : Cl} {l : List W} (h : linked c l) : ∀ v ∈ l, ∀ w ∈ l, v.day = w.day → v = w := by
  induction l with
  | nil => intro v hv; cases hv
  | cons x l ih =>
    intro v hv w hw e
    rcases List.mem_cons.1 hv with rfl | hv'
    · rcases List.mem_cons.1 hw with rfl | hw'
      · rfl
      · have := (linked_head h w hw').1; omega
    · rcases List.mem_cons.1 hw with rfl | hw'
      · have := (linked_head h v hv').1; omega
      · exact ih (linked_tail h) v hv' w hw' e

theorem linked_snoc {c : Cl} {l : List W} {x : W} : linked c (l ++ [x]) ↔ linked c l ∧ okW c x ∧ ∀ y, l.getLast? = some y → y.day < x.day ∧ near c y x := by
  induction l with
  | nil => simp [linked]
  | cons v l ih =>
    cases l with
    | nil => simp [linked]; intro _; exact And.comm
    | cons u l =>
      have e : (v :: u :: l) ++ [x] = v :: u :: (l ++ [x]) := rfl
      rw [e]
      show (okW c v ∧ (v.day < u.day ∧ near c v u) ∧ linked c ((u :: l) ++ [x])) ↔ _
      rw [ih, List.getLast?_cons_cons]
      show _ ↔ (okW c v ∧ (v.day < u.day ∧ near c v u) ∧ linked c (u :: l)) ∧ _
      constructor
      · rintro ⟨h1, h2, h3, h4⟩; exact ⟨⟨h1, h2, h3⟩, h4⟩
      · rintro ⟨⟨h1, h2, h3⟩, h4⟩; exact ⟨h1, h2, h3, h4⟩
theorem linked_take_succ {c : Cl} {l : List W} {k : Nat} (hk : k < l.length) : linked c (l.take (k + 1)) ↔ linked c (l.take k) ∧ okW c l[k] ∧ ∀ h : 0 < k, l[k - 1].day < l[k].day ∧ near c l[k - 1] l[k] := by
  rw [List.take_succ_eq_append_getElem hk, linked_snoc]
  have hl : (l.take k).getLast? = if h : 0 < k then some l[k - 1] else none := by
    rw [List.getLast?_eq_getElem?, List.length_take, Nat.min_eq_left (by omega)]
    split
    · rw [List.getElem?_take_of_lt (by omega), List.getElem?_eq_getElem (by omega)]
    · rename_i h
      have : k = 0 := by omega
      subst this
      simp
  rw [hl]
  constructor
  · rintro ⟨h1, h2, h3⟩; exact ⟨h1, h2, fun h => h3 _ (by rw [dif_pos h])⟩
  · rintro ⟨h1, h2, h3⟩
    refine ⟨h1, h2, fun y hy => ?_⟩
    by_cases h : 0 < k
    · rw [dif_pos h] at hy; cases hy; exact h3 h
    · rw [dif_neg h] at hy; cases hy
theorem linked_take {c : Cl} {l : List W} (h : linked c l) (k : Nat) : linked c (l.take k) := by
  induction l generalizing k with
  | nil => simp [linked]
  | cons v l ih =>
    cases k with
    | zero => trivial
    | succ k =>
      cases l with
      | nil => simpa using h
      | cons u l =>
        cases k with
        | zero => exact h.1
        | succ k => exact ⟨h.1, h.2.1, ih h.2.2 (k + 1)⟩

/-! ### Heights -/
def tempAt (c : Cl) (t h : Int) : Int := t - (c.lapse * (h - c.base)) / 100
def snow (c : Cl) (w : W) (h : Int) : Int := if tempAt c w.temp h ≤ 0 then w.rain else 0
def wetn (c : Cl) (w : W) (h : Int) : Int := if tempAt c w.temp h ≤ 0 then 0 else w.rain
def melt (c : Cl) (w : W) (h f : Int) : Int := (f * max 0 (tempAt c w.temp h)) / 1000
theorem tempAt_mono (c : Cl) {t t' : Int} (h : Int) (ht : t ≤ t') : tempAt c t h ≤ tempAt c t' h := by unfold tempAt; omega
theorem melt_nonneg {c : Cl} {w : W} {h f : Int} (hf : 0 ≤ f) : 0 ≤ melt c w h f := by
  unfold melt
  exact Int.ediv_nonneg (Int.mul_nonneg hf (by omega)) (by omega)
theorem melt_mono {c : Cl} {v w : W} {h f f' : Int} (hf : 0 ≤ f) (hff : f ≤ f') (ht : v.temp ≤ w.temp) : melt c v h f ≤ melt c w h f' := by
  unfold melt
  have h1 := tempAt_mono c h ht
  refine Int.ediv_le_ediv (by omega) ?_
  calc f * max 0 (tempAt c v.temp h) ≤ f * max 0 (tempAt c w.temp h) := Int.mul_le_mul_of_nonneg_left (by omega) hf
    _ ≤ f' * max 0 (tempAt c w.temp h) := Int.mul_le_mul_of_nonneg_right hff (by omega)
theorem snow_mono {c : Cl} {v w : W} {h : Int} (ht : v.temp ≤ w.temp) (hr : w.rain ≤ v.rain) (hv : 0 ≤ v.rain) : snow c w h ≤ snow c v h := by
  have h1 := tempAt_mono c h ht
  unfold snow
  split <;> split <;> omega
theorem snow_wetn (c : Cl) (w : W) (h : Int) : snow c w h + wetn c w h = w.rain := by
  unfold snow wetn; split <;> omega
theorem snow_nonneg {c : Cl} {w : W} {h : Int} (hr : 0 ≤ w.rain) : 0 ≤ snow c w h := by unfold snow; split <;> omega
theorem wetn_nonneg {c : Cl} {w : W} {h : Int} (hr : 0 ≤ w.rain) : 0 ≤ wetn c w h := by unfold wetn; split <;> omega
def next (c : Cl) (w : W) (h f x : Int) : Int := max 0 (x + snow c w h - melt c w h f)

/-! ### Gaps -/
def far (c : Cl) (e : W) (d : Int) : Int := c.swing * ab (e.day - d)
def gapLo (c : Cl) (d : Int) : List W → Int → Int
  | [], a => a
  | e :: l, a => gapLo c d l (max a (e.temp - far c e d))
def gapHi (c : Cl) (d : Int) : List W → Int → Int
  | [], a => a
  | e :: l, a => gapHi c d l (min a (e.temp + far c e d))
def gapR (d : Int) : List W → Int × Int → Int × Int
  | [], a => a
  | e :: l, a => gapR d l (if e.day = d then (e.rain, e.rain) else a)
theorem le_gapHi (c : Cl) (d x : Int) : ∀ (l : List W) (a : Int), x ≤ gapHi c d l a ↔ x ≤ a ∧ ∀ e ∈ l, x ≤ e.temp + far c e d := by
  intro l
  induction l with
  | nil => intro a; simp [gapHi]
  | cons e l ih =>
    intro a
    simp only [gapHi, ih, List.mem_cons, forall_eq_or_imp]
    constructor
    · rintro ⟨h1, h2⟩; exact ⟨by omega, by omega, h2⟩
    · rintro ⟨h1, h2, h3⟩; exact ⟨by omega, h3⟩
theorem gapLo_le (c : Cl) (d x : Int) : ∀ (l : List W) (a : Int), gapLo c d l a ≤ x ↔ a ≤ x ∧ ∀ e ∈ l, e.temp - far c e d ≤ x := by
  intro l
  induction l with
  | nil => intro a; simp [gapLo]
  | cons e l ih =>
    intro a
    simp only [gapLo, ih, List.mem_cons, forall_eq_or_imp]
    constructor
    · rintro ⟨h1, h2⟩; exact ⟨by omega, by omega, h2⟩
    · rintro ⟨h1, h2, h3⟩; exact ⟨by omega, h3⟩
theorem gapR_none (d : Int) : ∀ (l : List W) (a : Int × Int), (∀ e ∈ l, e.day ≠ d) → gapR d l a = a := by
  intro l
  induction l with
  | nil => intro a _; rfl
  | cons e l ih =>
    intro a h
    simp only [gapR]
    rw [if_neg (h e List.mem_cons_self)]
    exact ih a fun x hx => h x (List.mem_cons_of_mem _ hx)
theorem gapR_some (d : Int) (e : W) (he : e.day = d) : ∀ (l : List W) (a : Int × Int), e ∈ l → (∀ x ∈ l, x.day = d → x = e) → gapR d l a = (e.rain, e.rain) := by
  intro l
  induction l with
  | nil => intro a h; cases h
  | cons x l ih =>
    intro a hm hu
    simp only [gapR]
    by_cases hin : e ∈ l
    · exact ih _ hin fun y hy => hu y (List.mem_cons_of_mem _ hy)
    · rcases List.mem_cons.1 hm with rfl | hm
      · rw [if_pos he]
        refine gapR_none d l _ fun y hy hd => hin ?_
        rw [← hu y (List.mem_cons_of_mem _ hy) hd]
        exact hy
      · exact absurd hm hin
theorem gapLo_snoc (c : Cl) (d : Int) (e : W) : ∀ (l : List W) (a : Int), gapLo c d (l ++ [e]) a = max (gapLo c d l a) (e.temp - far c e d) := by
  intro l
  induction l with
  | nil => intro a; rfl
  | cons x l ih => intro a; exact ih _
theorem gapHi_snoc (c : Cl) (d : Int) (e : W) : ∀ (l : List W) (a : Int), gapHi c d (l ++ [e]) a = min (gapHi c d l a) (e.temp + far c e d) := by
  intro l
  induction l with
  | nil => intro a; rfl
  | cons x l ih => intro a; exact ih _
theorem gapR_snoc (d : Int) (e : W) : ∀ (l : List W) (a : Int × Int), gapR d (l ++ [e]) a = if e.day = d then (e.rain, e.rain) else gapR d l a := by
  intro l
  induction l with
  | nil => intro a; rfl
  | cons x l ih => intro a; exact ih _
def gLo (c : Cl) (l : List W) (d : Int) : Int := gapLo c d l c.cold
def gHi (c : Cl) (l : List W) (d : Int) : Int := gapHi c d l c.warm
def gR (c : Cl) (l : List W) (d : Int) : Int × Int := gapR d l (0, c.wet)

theorem far_nonneg {c : Cl} (hc : okCl c) (e : W) (d : Int) : 0 ≤ far c e d := by
  unfold far; exact Int.mul_nonneg hc.2.2.1.1 (by unfold ab; omega)
theorem far_tri {c : Cl} (hc : okCl c) (e : W) (d d' : Int) : far c e d ≤ far c e d' + c.swing * ab (d - d') := by
  unfold far
  rw [← Int.mul_add]
  exact Int.mul_le_mul_of_nonneg_left (by unfold ab; omega) hc.2.2.1.1
theorem near_far {c : Cl} (hc : okCl c) {e e' : W} (h : near c e e') (d : Int) : e.temp - far c e d ≤ e'.temp + far c e' d := by
  unfold near at h
  have h1 : c.swing * ab (e.day - e'.day) ≤ far c e d + far c e' d := by
    unfold far
    rw [← Int.mul_add]
    exact Int.mul_le_mul_of_nonneg_left (by unfold ab; omega) hc.2.2.1.1
  have : e.temp - e'.temp ≤ ab (e.temp - e'.temp) := by unfold ab; omega
  omega
theorem gLo_le_gHi {c : Cl} (hc : okCl c) {l : List W} (hl : linked c l) (d : Int) : gLo c l d ≤ gHi c l d := by
  unfold gLo gHi
  rw [gapLo_le]
  have hok := linked_ok hl
  constructor
  · rw [le_gapHi]
    refine ⟨hc.2.2.2.2.1.2.1, fun e he => ?_⟩
    have := (hok e he).2.1.1
    have := far_nonneg hc e d
    omega
  · intro e he
    rw [le_gapHi]
    refine ⟨?_, fun e' he' => near_far hc (linked_near hl e he e' he') d⟩
    have := (hok e he).2.1.2
    have := far_nonneg hc e d
    omega
theorem cold_le_gLo (c : Cl) (l : List W) (d : Int) : c.cold ≤ gLo c l d := ((gapLo_le c d _ l c.cold).1 (Int.le_refl _)).1
theorem gHi_le_warm (c : Cl) (l : List W) (d : Int) : gHi c l d ≤ c.warm := ((le_gapHi c d _ l c.warm).1 (Int.le_refl _)).1
theorem gHi_step {c : Cl} (hc : okCl c) (l : List W) (d d' : Int) : gHi c l d - c.swing * ab (d - d') ≤ gHi c l d' := by
  have hs : 0 ≤ c.swing * ab (d - d') := Int.mul_nonneg hc.2.2.1.1 (by unfold ab; omega)
  have h := (le_gapHi c d _ l c.warm).1 (Int.le_refl (gHi c l d))
  unfold gHi
  rw [le_gapHi]
  refine ⟨by have := h.1; unfold gHi at this; omega, fun e he => ?_⟩
  have h1 := h.2 e he
  have h2 := far_tri hc e d d'
  unfold gHi at h1
  omega
theorem gLo_step {c : Cl} (hc : okCl c) (l : List W) (d d' : Int) : gLo c l d' ≤ gLo c l d + c.swing * ab (d - d') := by
  have hs : 0 ≤ c.swing * ab (d - d') := Int.mul_nonneg hc.2.2.1.1 (by unfold ab; omega)
  have h := (gapLo_le c d _ l c.cold).1 (Int.le_refl (gLo c l d))
  unfold gLo
  rw [gapLo_le]
  refine ⟨by have := h.1; unfold gLo at this; omega, fun e he => ?_⟩
  have h1 := h.2 e he
  have h2 := far_tri hc e d d'
  unfold gLo at h1
  omega
theorem gHi_of_log {c : Cl} (hc : okCl c) {l : List W} (hl : linked c l) {e : W} (he : e ∈ l) (d : Int) : ab (e.temp - gHi c l d) ≤ far c e d := by
  have h1 : gHi c l d ≤ e.temp + far c e d := ((le_gapHi c d _ l c.warm).1 (Int.le_refl _)).2 e he
  have h2 : e.temp - far c e d ≤ gHi c l d := by
    unfold gHi
    rw [le_gapHi]
    refine ⟨?_, fun e' he' => near_far hc (linked_near hl e he e' he') d⟩
    have := (linked_ok hl e he).2.1.2
    have := far_nonneg hc e d
    omega
  unfold ab
  omega
theorem gLo_of_log {c : Cl} (hc : okCl c) {l : List W} (hl : linked c l) {e : W} (he : e ∈ l) (d : Int) : ab (e.temp - gLo c l d) ≤ far c e d := by
  have h1 : e.temp - far c e d ≤ gLo c l d := ((gapLo_le c d _ l c.cold).1 (Int.le_refl _)).2 e he
  have h2 : gLo c l d ≤ e.temp + far c e d := by
    unfold gLo
    rw [gapLo_le]
    refine ⟨?_, fun e' he' => near_far hc (linked_near hl e' he' e he) d⟩
    have := (linked_ok hl e he).2.1.1
    have := far_nonneg hc e d
    omega
  unfold ab
  omega
theorem far_self (c : Cl) (e : W) : far c e e.day = 0 := by unfold far ab; simp
theorem gR_of_log {c : Cl} {l : List W} (hl : linked c l) {e : W} (he : e ∈ l) : gR c l e.day = (e.rain, e.rain) :=
  gapR_some e.day e rfl l _ he fun x hx hd => linked_day hl x hx e he hd
theorem gR_bounds {c : Cl} (hc : okCl c) {l : List W} (hl : linked c l) (d : Int) : 0 ≤ (gR c l d).1 ∧ (gR c l d).1 ≤ (gR c l d).2 ∧ (gR c l d).2 ≤ c.wet := by
  by_cases h : ∃ e ∈ l, e.day = d
  · obtain ⟨e, he, rfl⟩ := h
    rw [gR_of_log hl he]
    have := (linked_ok hl e he).2.2
    exact ⟨this.1, Int.le_refl _, this.2⟩
  · have : gR c l d = (0, c.wet) := gapR_none d l _ fun e he hd => h ⟨e, he, hd⟩
    rw [this]
    exact ⟨by simp, hc.2.2.2.1.1, by simp⟩

/-! ### Sequences that agree with a log -/
/-- Successive days. -/
def succ (d0 : Int) : List W → Prop
  | [] => True
  | w :: l => w.day = d0 ∧ succ (d0 + 1) l
theorem succ_get {d0 : Int} {l : List W} (h : succ d0 l) : ∀ i (hi : i < l.length), l[i].day = d0 + i := by
  induction l generalizing d0 with
  | nil => intro i hi; simp at hi
  | cons w l ih =>
    intro i hi
    cases i with
    | zero => simpa using h.1
    | succ i =>
      have := ih h.2 i (by simpa using hi)
      simp only [List.getElem_cons_succ, this]
      omega
/-- What a log asks of a day of a sequence. -/
def meets (c : Cl) (days : List W) (first : Int) (e : W) : Prop :=
  let x := days.getD (min (max (e.day - first) 0) (days.length - 1)).toNat default
  near c e x ∧ (e.day ≠ x.day ∨ e = x)
def agrees (c : Cl) (l days : List W) (first : Int) : Prop := linked c days ∧ ∀ e ∈ l, meets c days first e

theorem meets_near {c : Cl} {days : List W} {first : Int} {e : W} (hs : succ first days) (hd : linked c days) (hm : meets c days first e) {w : W} (hw : w ∈ days) : near c e w ∧ (e.day = w.day → e = w) := by
  obtain ⟨i, hi, rfl⟩ := List.getElem_of_mem hw
  have hdi := succ_get hs i hi
  unfold meets at hm
  simp only at hm
  obtain ⟨k, hk⟩ : ∃ k, k = (min (max (e.day - first) 0) ((days.length : Int) - 1)).toNat := ⟨_, rfl⟩
  rw [← hk] at hm
  have hkl : k < days.length := by omega
  have hx : days.getD k default = days[k] := by simp [List.getD, List.getElem?_eq_getElem hkl]
  rw [hx] at hm
  obtain ⟨h1, h2⟩ := hm
  have hdk := succ_get hs k hkl
  have hn := linked_near hd days[k] (List.getElem_mem _) days[i] (List.getElem_mem _)
  refine ⟨?_, ?_⟩
  · by_cases he : e.day = days[k].day
    · rcases h2 with h2 | h2
      · exact absurd he h2
      · rw [h2]; exact hn
    · refine near_trans h1 hn ?_
      omega
  · intro he
    have : k = i := by omega
    subst this
    rcases h2 with h2 | h2
    · exact absurd he h2
    · exact h2

/-- (P6.9) A sequence that agrees lies within the gaps. -/
theorem agrees_gap {c : Cl} {l days : List W} {first : Int} (hl : linked c l) (hs : succ first days) (h : agrees c l days first) {w : W} (hw : w ∈ days) :
    gLo c l w.day ≤ w.temp ∧ w.temp ≤ gHi c l w.day ∧ (gR c l w.day).1 ≤ w.rain ∧ w.rain ≤ (gR c l w.day).2 := by
  have hok := linked_ok h.1 w hw
  refine ⟨?_, ?_, ?_⟩
  · unfold gLo
    rw [gapLo_le]
    refine ⟨hok.2.1.1, fun e he => ?_⟩
    have := (meets_near hs h.1 (h.2 e he) hw).1
    unfold near ab at this
    unfold far ab
    omega
  · unfold gHi
    rw [le_gapHi]
    refine ⟨hok.2.1.2, fun e he => ?_⟩
    have := (meets_near hs h.1 (h.2 e he) hw).1
    unfold near ab at this
    unfold far ab
    omega
  · by_cases hex : ∃ e ∈ l, e.day = w.day
    · obtain ⟨e, he, hd⟩ := hex
      have := (meets_near hs h.1 (h.2 e he) hw).2 hd
      subst this
      rw [gR_of_log hl he]
      exact ⟨Int.le_refl _, Int.le_refl _⟩
    · have : gR c l w.day = (0, c.wet) := gapR_none _ l _ fun e he hd => hex ⟨e, he, hd⟩
      rw [this]
      exact hok.2.2

def fillW (c : Cl) (l : List W) (warm : Bool) (d : Int) : W := if warm then ⟨d, gHi c l d, (gR c l d).1⟩ else ⟨d, gLo c l d, (gR c l d).2⟩
def fill (c : Cl) (l : List W) (warm : Bool) (d0 : Int) : Nat → List W
  | 0 => []
  | n + 1 => fillW c l warm d0 :: fill c l warm (d0 + 1) n
theorem fill_length (c : Cl) (l : List W) (warm : Bool) (n : Nat) : ∀ d0, (fill c l warm d0 n).length = n := by
  induction n with
  | zero => intro d0; rfl
  | succ n ih => intro d0; simp [fill, ih]
theorem fillW_day (c : Cl) (l : List W) (warm : Bool) (d : Int) : (fillW c l warm d).day = d := by unfold fillW; split <;> rfl
theorem fill_succ (c : Cl) (l : List W) (warm : Bool) (n : Nat) : ∀ d0, succ d0 (fill c l warm d0 n) := by
  induction n with
  | zero => intro d0; trivial
  | succ n ih => intro d0; exact ⟨fillW_day .., ih _⟩
theorem fill_get (c : Cl) (l : List W) (warm : Bool) (n : Nat) : ∀ d0 i (h : i < (fill c l warm d0 n).length), (fill c l warm d0 n)[i] = fillW c l warm (d0 + i) := by
  induction n with
  | zero => intro d0 i h; simp [fill] at h
  | succ n ih =>
    intro d0 i h
    cases i with
    | zero => simp [fill]
    | succ i =>
      simp only [fill, List.getElem_cons_succ]
      rw [ih]
      congr 1
      omega
theorem fillW_ok {c : Cl} (hc : okCl c) {l : List W} (hl : linked c l) (warm : Bool) {d : Int} (hd : 0 ≤ d ∧ d ≤ 1048576) : okW c (fillW c l warm d) := by
  have h1 := gLo_le_gHi hc hl d
  have h2 := cold_le_gLo c l d
  have h3 := gHi_le_warm c l d
  have h4 := gR_bounds hc hl d
  unfold fillW
  split
  · exact ⟨hd, ⟨by simp only; omega, h3⟩, ⟨h4.1, by simp only; omega⟩⟩
  · exact ⟨hd, ⟨h2, by simp only; omega⟩, ⟨by simp only; omega, h4.2.2⟩⟩
theorem fillW_near {c : Cl} (hc : okCl c) (l : List W) (warm : Bool) (d d' : Int) : near c (fillW c l warm d) (fillW c l warm d') := by
  unfold near
  rw [fillW_day, fillW_day]
  unfold fillW
  split
  · simp only
    have h1 := gHi_step hc l d d'
    have h2 := gHi_step hc l d' d
    rw [show ab (d' - d) = ab (d - d') from by unfold ab; omega] at h2
    unfold ab at *
    omega
  · simp only
    have h1 := gLo_step hc l d d'
    have h2 := gLo_step hc l d' d
    rw [show ab (d' - d) = ab (d - d') from by unfold ab; omega] at h2
    unfold ab at *
    omega
theorem fill_linked {c : Cl} (hc : okCl c) {l : List W} (hl : linked c l) (warm : Bool) (n : Nat) : ∀ d0 : Int, 0 ≤ d0 → d0 + n ≤ 1048577 → linked c (fill c l warm d0 n) := by
  induction n with
  | zero => intro d0 _ _; trivial
  | succ n ih =>
    intro d0 h0 h1
    have hi := ih (d0 + 1) (by omega) (by omega)
    cases n with
    | zero => exact fillW_ok hc hl warm ⟨h0, by omega⟩
    | succ n => exact ⟨fillW_ok hc hl warm ⟨h0, by omega⟩, ⟨by rw [fillW_day, fillW_day]; omega, fillW_near hc l warm _ _⟩, hi⟩
theorem fillW_log {c : Cl} (hc : okCl c) {l : List W} (hl : linked c l) (warm : Bool) {e : W} (he : e ∈ l) (d : Int) : near c e (fillW c l warm d) ∧ (e.day ≠ (fillW c l warm d).day ∨ e = fillW c l warm d) := by
  have h1 := gHi_of_log hc hl he d
  have h2 := gLo_of_log hc hl he d
  refine ⟨?_, ?_⟩
  · unfold near
    rw [fillW_day]
    unfold fillW
    split
    · exact h1
    · exact h2
  · rw [fillW_day]
    by_cases hd : e.day = d
    · refine .inr ?_
      subst hd
      rw [far_self] at h1 h2
      have h3 := gR_of_log hl he
      unfold fillW
      rw [h3]
      unfold ab at h1 h2
      split
      · have : gHi c l e.day = e.temp := by omega
        rw [this]
      · have : gLo c l e.day = e.temp := by omega
        rw [this]
    · exact .inl hd
/-- (P6.9) What is filled agrees. -/
theorem fill_agrees {c : Cl} (hc : okCl c) {l : List W} (hl : linked c l) (warm : Bool) (n : Nat) (hn : 0 < n) (d0 : Int) (h0 : 0 ≤ d0) (h1 : d0 + n ≤ 1048577) : agrees c l (fill c l warm d0 n) d0 := by
  refine ⟨fill_linked hc hl warm n d0 h0 h1, fun e he => ?_⟩
  unfold meets
  simp only
  rw [fill_length]
  have hk : (min (max (e.day - d0) 0) ((n : Int) - 1)).toNat < n := by omega
  generalize (min (max (e.day - d0) 0) ((n : Int) - 1)).toNat = k at hk
  have hx : (fill c l warm d0 n).getD k default = fillW c l warm (d0 + k) := by
    simp [List.getD, List.getElem?_eq_getElem (show k < (fill c l warm d0 n).length by rw [fill_length]; exact hk), fill_get]
  rw [hx]
  exact fillW_log hc hl warm he _

/-! ### Change -/
def lowSum (c : Cl) (h : Int) : List W → Int → Int
  | [], a => a
  | w :: l, a => lowSum c h l (a + (snow c w h - melt c w h c.fhi))
def highSum (c : Cl) (h : Int) : List W → Int → Int
  | [], a => a
  | w :: l, a => highSum c h l (max 0 (a + snow c w h - melt c w h c.flo))
def walkW (c : Cl) (h f : Int) : List W → Int → Int
  | [], x => x
  | w :: l, x => walkW c h f l (next c w h f x)

/-- Day by day colder (or as cold) and wetter (or as wet). -/
def cooler : List W → List W → Prop
  | [], [] => True
  | v :: l, w :: m => (v.temp ≤ w.temp ∧ w.rain ≤ v.rain ∧ 0 ≤ v.rain) ∧ cooler l m
  | _, _ => False
theorem low_bound {c : Cl} {h f : Int} (hf : 0 ≤ f ∧ f ≤ c.fhi) : ∀ {l m : List W}, cooler l m → ∀ {x y a : Int}, a ≤ x - y → lowSum c h m a ≤ walkW c h f l x - y := by
  intro l
  induction l with
  | nil => intro m hm; cases m with
    | nil => intro x y a ha; exact ha
    | cons w m => exact hm.elim
  | cons v l ih =>
    intro m hm
    cases m with
    | nil => exact hm.elim
    | cons w m =>
      intro x y a ha
      obtain ⟨⟨h1, h2, h3⟩, h4⟩ := hm
      refine ih h4 ?_
      have k1 := snow_mono (c := c) (h := h) h1 h2 h3
      have k2 := melt_mono (c := c) (h := h) hf.1 hf.2 h1
      unfold next
      omega
theorem high_bound {c : Cl} {h f : Int} (hc : 0 ≤ c.flo) (hf : c.flo ≤ f) : ∀ {l m : List W}, cooler m l → ∀ {x y a : Int}, 0 ≤ y → x ≤ y + a → walkW c h f l x ≤ y + highSum c h m a := by
  intro l
  induction l with
  | nil => intro m hm; cases m with
    | nil => intro x y a _ ha; exact ha
    | cons w m => exact hm.elim
  | cons v l ih =>
    intro m hm
    cases m with
    | nil => exact hm.elim
    | cons w m =>
      intro x y a hy ha
      obtain ⟨⟨h1, h2, h3⟩, h4⟩ := hm
      refine ih h4 hy ?_
      have k1 := snow_mono (c := c) (h := h) h1 h2 h3
      have k2 := melt_mono (c := c) (h := h) hc hf h1
      unfold next
      omega
theorem fill_cooler {c : Cl} {l m : List W} (n : Nat) : ∀ d0, (∀ d, gHi c l d ≤ gHi c m d ∧ (gR c m d).1 ≤ (gR c l d).1 ∧ 0 ≤ (gR c l d).1) → cooler (fill c l true d0 n) (fill c m true d0 n) := by
  induction n with
  | zero => intro d0 _; trivial
  | succ n ih => intro d0 h; exact ⟨by simpa [fillW] using h d0, ih _ h⟩
theorem fill_cooler' {c : Cl} {l m : List W} (n : Nat) : ∀ d0, (∀ d, gLo c l d ≤ gLo c m d ∧ (gR c m d).2 ≤ (gR c l d).2 ∧ 0 ≤ (gR c l d).2) → cooler (fill c l false d0 n) (fill c m false d0 n) := by
  induction n with
  | zero => intro d0 _; trivial
  | succ n ih => intro d0 h; exact ⟨by simpa [fillW] using h d0, ih _ h⟩
theorem agrees_cooler {c : Cl} {l : List W} : ∀ (days : List W) (d0 : Int), succ d0 days → (∀ w ∈ days, w.temp ≤ gHi c l w.day ∧ (gR c l w.day).1 ≤ w.rain ∧ 0 ≤ w.rain) → cooler days (fill c l true d0 days.length) := by
  intro days
  induction days with
  | nil => intro d0 _ _; trivial
  | cons w days ih =>
    intro d0 hs h
    obtain ⟨h1, h2⟩ := hs
    subst h1
    exact ⟨by simpa [fillW] using h w List.mem_cons_self, ih _ h2 fun v hv => h v (List.mem_cons_of_mem _ hv)⟩
theorem agrees_cooler' {c : Cl} {l : List W} : ∀ (days : List W) (d0 : Int), succ d0 days → (∀ w ∈ days, gLo c l w.day ≤ w.temp ∧ w.rain ≤ (gR c l w.day).2 ∧ 0 ≤ (gR c l w.day).2) → cooler (fill c l false d0 days.length) days := by
  intro days
  induction days with
  | nil => intro d0 _ _; trivial
  | cons w days ih =>
    intro d0 hs h
    obtain ⟨h1, h2⟩ := hs
    subst h1
    exact ⟨by simpa [fillW] using h w List.mem_cons_self, ih _ h2 fun v hv => h v (List.mem_cons_of_mem _ hv)⟩
end Go.Proofs.YtnpggmdpokcakaaGreatDoor.Sp
