/- Contracts of package spring: Gap. -/
import Derived.Test.YtnpggmdpokcakaaGreatDoorB1
set_option linter.unusedVariables false
set_option linter.unusedSimpArgs false
set_option linter.unnecessarySimpa false
namespace Go.Proofs.YtnpggmdpokcakaaGreatDoor
open Go.RowKit

def gapOut (c : Sp.Cl) (l : List Sp.W) (d : Int) : Value :=
  if ckL c l = 0 then if 0 ≤ d ∧ d ≤ 1048576 then .tuple #[.agg #[.int .i64 (Sp.gLo c l d), .int .i64 (Sp.gHi c l d)], .agg #[.int .i64 (Sp.gR c l d).1, .int .i64 (Sp.gR c l d).2], .int .i64 0]
    else .tuple #[.agg #[.int .i64 0, .int .i64 0], .agg #[.int .i64 0, .int .i64 0], .int .i64 1]
  else .tuple #[.agg #[.int .i64 0, .int .i64 0], .agg #[.int .i64 0, .int .i64 0], .int .i64 (ckL c l)]
set_option maxRecDepth 100000 in
set_option maxHeartbeats 4000000 in
theorem Gap_yes (c : Sp.Cl) (A : Option Addr) (cap : Nat) (l : List Sp.W) (d : Int) (w : World) (hr : Rd lW 3 w A l) (h : ckL c l = 0) (hd : 0 ≤ d ∧ d ≤ 1048576) :
    Calls Tryz.prog 38 #[vC c, .slice A l.length cap, .int .i64 d] w fun e w' => e = .returned (.tuple #[.agg #[.int .i64 (Sp.gLo c l d), .int .i64 (Sp.gHi c l d)], .agg #[.int .i64 (Sp.gR c l d).1, .int .i64 (Sp.gR c l d).2], .int .i64 0]) ∧ Below w.heap.size w w' := by
  simp only [vC]
  have HR := Lib.hid hr
  have HC := Lib.hid (ckL_ok h).1
  have HK := Lib.hid (ckL_ok h).2
  have b1 : inB d 0 1048576 = true := decide_eq_true hd
  clear hr
  go_enter Tryz.func38, Tryz.ntmps38
  go_wp2_with fail
  go_region_held3 (fun W => Below (((w.alloc (.cells (cC c) 25)).alloc (.cells #[.int .i64 0, .int .i64 0] 23)).alloc (.cells #[.int .i64 0, .int .i64 0] 23)).heap.size (((w.alloc (.cells (cC c) 25)).alloc (.cells #[.int .i64 0, .int .i64 0] 23)).alloc (.cells #[.int .i64 0, .int .i64 0] 23)) W ∧ ∀ b o, b < (((w.alloc (.cells (cC c) 25)).alloc (.cells #[.int .i64 0, .int .i64 0] 23)).alloc (.cells #[.int .i64 0, .int .i64 0] 23)).heap.size → W.cell? ⟨b, o, none⟩ = (((w.alloc (.cells (cC c) 25)).alloc (.cells #[.int .i64 0, .int .i64 0] 23)).alloc (.cells #[.int .i64 0, .int .i64 0] 23)).cell? ⟨b, o, none⟩) (first | assumption | exact keepSd (keepS0 _) | exact keepSa _ (by assumption) | exact keepS (by assumption) hb1)
    (first | (go_at_call 107; refine (day_calls _ _).mono ?_; rintro e w' ⟨rfl, rfl⟩) | (go_at_call 106; refine (logged_yes c _ _ l _ _ [true] _ (by exact HR.out.below (by repeat (first | exact Below.refl _ _ | refine balloc ?_ _ | refine bdrew ?_ | refine bthen ?_ ‹_ ∧ _›.1 | refine bthen ?_ (by assumption)))) (by first | exact (rdB1 (by simp) _ _).drew | exact rdB1 (by simp) _ _) h rfl).mono ?_; rintro e w' ⟨rfl, hb1⟩))
  rename_i hH
  obtain ⟨hbH, hcH⟩ := hH
  have H3 := Lib.hid (box_below (g := w.heap.size) (o := .cells (cC c) 25 (0, 0)) (by repeat (first | (with_reducible exact box_new _ _) | (refine box_at ?_ _; simp; done) | (with_reducible refine box_alloc _ ?_) | (with_reducible refine box_drewN ?_ _) | (with_reducible refine box_drew ?_) | (with_reducible refine box_below ?_ (by assumption)))) hbH)
  have H6 := Lib.hid (box_below (g := w.heap.size + 1) (o := .cells #[.int .i64 0, .int .i64 0] 23 (0, 0)) (by repeat (first | (with_reducible exact box_new _ _) | (refine box_at ?_ _; simp; done) | (with_reducible refine box_alloc _ ?_) | (with_reducible refine box_drewN ?_ _) | (with_reducible refine box_drew ?_) | (with_reducible refine box_below ?_ (by assumption)))) hbH)
  have H7 := Lib.hid (box_below (g := w.heap.size + 1 + 1) (o := .cells #[.int .i64 0, .int .i64 0] 23 (0, 0)) (by repeat (first | (with_reducible exact box_new _ _) | (refine box_at ?_ _; simp; done) | (with_reducible refine box_alloc _ ?_) | (with_reducible refine box_drewN ?_ _) | (with_reducible refine box_drew ?_) | (with_reducible refine box_below ?_ (by assumption)))) hbH)
  have HB := Lib.hid (bthen (w := w) (by repeat (first | exact Below.refl _ _ | refine balloc ?_ _ | refine bdrewN ?_ _ | refine bdrew ?_ | refine bthen ?_ (by assumption))) hbH)
  clear hbH hcH
  have hh3 := box_lt H3.out
  have hh6 := box_lt H6.out
  have hh7 := box_lt H7.out
  obtain ⟨c0, c1, c2, c3, c4, c5, c6, c7⟩ := boxC H3.out
  go_wp2_with fail
  go_wp2_with (go_at_call 108; refine (gap_calls c _ _ l d _ HC.out (by exact HR.out.below HB.out) (fun x hx => Sp.linked_ok HK.out.2 x hx) hd).mono ?_; rintro e W2 ⟨rfl, hb2⟩; have H6 := Lib.hid (box_below H6.out hb2); have H7 := Lib.hid (box_below H7.out hb2); have HB := Lib.hid (bthen HB.out hb2); clear hb2; have hh6 := box_lt H6.out; have hh7 := box_lt H7.out; obtain ⟨y0, y1, y2, y3⟩ := box2 H6.out; obtain ⟨z0, z1, z2, z3⟩ := box2 H7.out)
  clear y0 y1 y2 y3 z0 z1 z2 z3 c0 c1 c2 c3 c4 c5 c6 c7
  have oA := box_new (W2.alloc (.cells #[.int .i64 (Sp.gLo c l d), .int .i64 (Sp.gHi c l d)] 23)) (.cells #[.int .i64 (Sp.gR c l d).1, .int .i64 (Sp.gR c l d).2] 23)
  have oB := box_alloc (.cells #[.int .i64 (Sp.gR c l d).1, .int .i64 (Sp.gR c l d).2] 23) (box_new W2 (.cells #[.int .i64 (Sp.gLo c l d), .int .i64 (Sp.gHi c l d)] 23))
  have q6 := box_alloc (.cells #[.int .i64 (Sp.gR c l d).1, .int .i64 (Sp.gR c l d).2] 23) (box_alloc (.cells #[.int .i64 (Sp.gLo c l d), .int .i64 (Sp.gHi c l d)] 23) H6.out)
  have q7 := box_alloc (.cells #[.int .i64 (Sp.gR c l d).1, .int .i64 (Sp.gR c l d).2] 23) (box_alloc (.cells #[.int .i64 (Sp.gLo c l d), .int .i64 (Sp.gHi c l d)] 23) H7.out)
  have qB := balloc (balloc HB.out (.cells #[.int .i64 (Sp.gLo c l d), .int .i64 (Sp.gHi c l d)] 23)) (.cells #[.int .i64 (Sp.gR c l d).1, .int .i64 (Sp.gR c l d).2] 23)
  have hsz : (W2.alloc (.cells #[.int .i64 (Sp.gLo c l d), .int .i64 (Sp.gHi c l d)] 23)).heap.size = W2.heap.size + 1 := by simp
  rw [hsz] at oA
  generalize (W2.alloc (.cells #[.int .i64 (Sp.gLo c l d), .int .i64 (Sp.gHi c l d)] 23)).alloc (.cells #[.int .i64 (Sp.gR c l d).1, .int .i64 (Sp.gR c l d).2] 23) = W3 at oA oB q6 q7 qB ⊢
  clear hsz HB H6 H7 H3 hh3
  have oA := Lib.hid oA
  have oB := Lib.hid oB
  have H6 := Lib.hid q6
  have H7 := Lib.hid q7
  have HB := Lib.hid qB
  clear q6 q7 qB
  have hA := box_lt oA.out
  have hB := box_lt oB.out
  have h6 := box_lt H6.out
  have h7 := box_lt H7.out
  obtain ⟨y0, y1, y2, y3⟩ := box2 H6.out
  obtain ⟨z0, z1, z2, z3⟩ := box2 H7.out
  obtain ⟨u0, u1, u2, u3⟩ := box2 oA.out
  obtain ⟨v0, v1, v2, v3⟩ := box2 oB.out
  go_region
  all_goals
    go_wp2
    have q6 := H6.out
    have q7 := H7.out
    have qB := HB.out
    refine bodyPost_ret (results_list (rs := [.cell 6 23, .cell 7 23, .tmp 8]) rfl (by simp) (.cell _ 23 #[.int .i64 (Sp.gLo c l d), .int .i64 (Sp.gHi c l d)] (0, 0) _ rfl (by repeat (first | (with_reducible assumption) | (with_reducible refine box_drew ?_) | (with_reducible refine box_drewN ?_ _) | (with_reducible apply box_set2) | ((with_reducible refine box_far ?ne_ ?_); case ne_ => (first | (simp; done) | (simp; omega))))) Tryz.underlying23 rfl (by kernel_rfl) (.cell _ 23 #[.int .i64 (Sp.gR c l d).1, .int .i64 (Sp.gR c l d).2] (0, 0) _ rfl (by repeat (first | (with_reducible assumption) | (with_reducible refine box_drew ?_) | (with_reducible refine box_drewN ?_ _) | (with_reducible apply box_set2) | ((with_reducible refine box_far ?ne_ ?_); case ne_ => (first | (simp; done) | (simp; omega))))) Tryz.underlying23 rfl (by kernel_rfl) (.tmp .nil)))) rfl ⟨rfl, ?_⟩
    exact (by repeat (first | (with_reducible assumption) | exact Below.refl _ _ | refine bdrew ?_ | refine bdrewN ?_ _ | refine balloc ?_ _ | ((with_reducible refine bset ?_ ?p_ _); case p_ => (first | (simp; done) | (simp; omega))) | refine bthen ?_ (by assumption)))
set_option maxRecDepth 100000 in
set_option maxHeartbeats 4000000 in
theorem Gap_out (c : Sp.Cl) (A : Option Addr) (cap : Nat) (l : List Sp.W) (d : Int) (w : World) (hr : Rd lW 3 w A l) (h : ckL c l = 0) (hd : ¬ (0 ≤ d ∧ d ≤ 1048576)) :
    Calls Tryz.prog 38 #[vC c, .slice A l.length cap, .int .i64 d] w fun e w' => e = .returned (.tuple #[.agg #[.int .i64 0, .int .i64 0], .agg #[.int .i64 0, .int .i64 0], .int .i64 1]) ∧ Below w.heap.size w w' := by
  simp only [vC]
  have HR := Lib.hid hr
  have b1 : inB d 0 1048576 = false := decide_eq_false hd
  clear hr hd
  go_enter Tryz.func38, Tryz.ntmps38
  go_wp2_with fail
  go_region_held3 (fun W => Below (((w.alloc (.cells (cC c) 25)).alloc (.cells #[.int .i64 0, .int .i64 0] 23)).alloc (.cells #[.int .i64 0, .int .i64 0] 23)).heap.size (((w.alloc (.cells (cC c) 25)).alloc (.cells #[.int .i64 0, .int .i64 0] 23)).alloc (.cells #[.int .i64 0, .int .i64 0] 23)) W ∧ ∀ b o, b < (((w.alloc (.cells (cC c) 25)).alloc (.cells #[.int .i64 0, .int .i64 0] 23)).alloc (.cells #[.int .i64 0, .int .i64 0] 23)).heap.size → W.cell? ⟨b, o, none⟩ = (((w.alloc (.cells (cC c) 25)).alloc (.cells #[.int .i64 0, .int .i64 0] 23)).alloc (.cells #[.int .i64 0, .int .i64 0] 23)).cell? ⟨b, o, none⟩) (first | assumption | exact keepSd (keepS0 _) | exact keepSa _ (by assumption) | exact keepS (by assumption) hb1)
    (first | (go_at_call 107; refine (day_calls _ _).mono ?_; rintro e w' ⟨rfl, rfl⟩) | (go_at_call 106; refine (logged_out c _ _ l _ _ [false] _ (by exact HR.out.below (by repeat (first | exact Below.refl _ _ | refine balloc ?_ _ | refine bdrew ?_ | refine bthen ?_ ‹_ ∧ _›.1 | refine bthen ?_ (by assumption)))) (by first | exact (rdB1 (by simp) _ _).drew | exact rdB1 (by simp) _ _) h rfl).mono ?_; rintro e w' ⟨rfl, hb1⟩))
  rename_i hH
  obtain ⟨hbH, hcH⟩ := hH
  have H3 := Lib.hid (box_below (g := w.heap.size) (o := .cells (cC c) 25 (0, 0)) (by repeat (first | (with_reducible exact box_new _ _) | (refine box_at ?_ _; simp; done) | (with_reducible refine box_alloc _ ?_) | (with_reducible refine box_drewN ?_ _) | (with_reducible refine box_drew ?_) | (with_reducible refine box_below ?_ (by assumption)))) hbH)
  have H6 := Lib.hid (box_below (g := w.heap.size + 1) (o := .cells #[.int .i64 0, .int .i64 0] 23 (0, 0)) (by repeat (first | (with_reducible exact box_new _ _) | (refine box_at ?_ _; simp; done) | (with_reducible refine box_alloc _ ?_) | (with_reducible refine box_drewN ?_ _) | (with_reducible refine box_drew ?_) | (with_reducible refine box_below ?_ (by assumption)))) hbH)
  have H7 := Lib.hid (box_below (g := w.heap.size + 1 + 1) (o := .cells #[.int .i64 0, .int .i64 0] 23 (0, 0)) (by repeat (first | (with_reducible exact box_new _ _) | (refine box_at ?_ _; simp; done) | (with_reducible refine box_alloc _ ?_) | (with_reducible refine box_drewN ?_ _) | (with_reducible refine box_drew ?_) | (with_reducible refine box_below ?_ (by assumption)))) hbH)
  have HB := Lib.hid (bthen (w := w) (by repeat (first | exact Below.refl _ _ | refine balloc ?_ _ | refine bdrewN ?_ _ | refine bdrew ?_ | refine bthen ?_ (by assumption))) hbH)
  clear hbH hcH
  have hh3 := box_lt H3.out
  have hh6 := box_lt H6.out
  have hh7 := box_lt H7.out
  obtain ⟨c0, c1, c2, c3, c4, c5, c6, c7⟩ := boxC H3.out
  have y6 := H6.out
  obtain ⟨y0, y1, y2, y3⟩ := box2 H6.out
  obtain ⟨z0, z1, z2, z3⟩ := box2 H7.out
  clear y6
  go_wp2_with fail
  have q6 := H6.out
  have q7 := H7.out
  have qB := HB.out
  refine bodyPost_ret (results_list (rs := [.cell 6 23, .cell 7 23, .tmp 8]) rfl (by simp) (.cell _ 23 #[.int .i64 0, .int .i64 0] (0, 0) _ rfl (by repeat (first | (with_reducible assumption) | (with_reducible refine box_drew ?_) | (with_reducible refine box_drewN ?_ _) | (with_reducible apply box_set2) | ((with_reducible refine box_far ?ne_ ?_); case ne_ => (first | (simp; done) | (simp; omega))))) Tryz.underlying23 rfl (by kernel_rfl) (.cell _ 23 #[.int .i64 0, .int .i64 0] (0, 0) _ rfl (by repeat (first | (with_reducible assumption) | (with_reducible refine box_drew ?_) | (with_reducible refine box_drewN ?_ _) | (with_reducible apply box_set2) | ((with_reducible refine box_far ?ne_ ?_); case ne_ => (first | (simp; done) | (simp; omega))))) Tryz.underlying23 rfl (by kernel_rfl) (.tmp .nil)))) rfl ⟨rfl, ?_⟩
  exact (by repeat (first | (with_reducible assumption) | exact Below.refl _ _ | refine bdrew ?_ | refine bdrewN ?_ _ | refine balloc ?_ _ | ((with_reducible refine bset ?_ ?p_ _); case p_ => (first | (simp; done) | (simp; omega))) | refine bthen ?_ (by assumption)))
set_option maxRecDepth 100000 in
set_option maxHeartbeats 4000000 in
theorem Gap_bad (c : Sp.Cl) (A : Option Addr) (cap : Nat) (l : List Sp.W) (d : Int) (w : World) (hr : Rd lW 3 w A l) (h : ckL c l ≠ 0) :
    Calls Tryz.prog 38 #[vC c, .slice A l.length cap, .int .i64 d] w fun e w' => e = .returned (.tuple #[.agg #[.int .i64 0, .int .i64 0], .agg #[.int .i64 0, .int .i64 0], .int .i64 (ckL c l)]) ∧ Below w.heap.size w w' := by
  simp only [vC]
  have HR := Lib.hid hr
  obtain ⟨b, b1⟩ : ∃ b, inB d 0 1048576 = b := ⟨_, rfl⟩
  have HN := Lib.hid h
  have hz : decide (ckL c l = 0) = false := decide_eq_false h
  have hz2 : (ckL c l != 0) = true := by simpa using h
  clear hr
  go_enter Tryz.func38, Tryz.ntmps38
  go_wp2_with fail
  go_region_held3 (fun W => Below (((w.alloc (.cells (cC c) 25)).alloc (.cells #[.int .i64 0, .int .i64 0] 23)).alloc (.cells #[.int .i64 0, .int .i64 0] 23)).heap.size (((w.alloc (.cells (cC c) 25)).alloc (.cells #[.int .i64 0, .int .i64 0] 23)).alloc (.cells #[.int .i64 0, .int .i64 0] 23)) W ∧ ∀ b o, b < (((w.alloc (.cells (cC c) 25)).alloc (.cells #[.int .i64 0, .int .i64 0] 23)).alloc (.cells #[.int .i64 0, .int .i64 0] 23)).heap.size → W.cell? ⟨b, o, none⟩ = (((w.alloc (.cells (cC c) 25)).alloc (.cells #[.int .i64 0, .int .i64 0] 23)).alloc (.cells #[.int .i64 0, .int .i64 0] 23)).cell? ⟨b, o, none⟩) (first | assumption | exact keepSd (keepS0 _) | exact keepSa _ (by assumption) | exact keepS (by assumption) hb1)
    (first | (go_at_call 107; refine (day_calls _ _).mono ?_; rintro e w' ⟨rfl, rfl⟩) | (go_at_call 106; refine (logged_bad c _ _ l _ _ [b] _ (by exact HR.out.below (by repeat (first | exact Below.refl _ _ | refine balloc ?_ _ | refine bdrew ?_ | refine bthen ?_ ‹_ ∧ _›.1 | refine bthen ?_ (by assumption)))) HN.out).mono ?_; rintro e w' ⟨rfl, hb1⟩))
  rename_i hH
  obtain ⟨hbH, hcH⟩ := hH
  have H3 := Lib.hid (box_below (g := w.heap.size) (o := .cells (cC c) 25 (0, 0)) (by repeat (first | (with_reducible exact box_new _ _) | (refine box_at ?_ _; simp; done) | (with_reducible refine box_alloc _ ?_) | (with_reducible refine box_drewN ?_ _) | (with_reducible refine box_drew ?_) | (with_reducible refine box_below ?_ (by assumption)))) hbH)
  have H6 := Lib.hid (box_below (g := w.heap.size + 1) (o := .cells #[.int .i64 0, .int .i64 0] 23 (0, 0)) (by repeat (first | (with_reducible exact box_new _ _) | (refine box_at ?_ _; simp; done) | (with_reducible refine box_alloc _ ?_) | (with_reducible refine box_drewN ?_ _) | (with_reducible refine box_drew ?_) | (with_reducible refine box_below ?_ (by assumption)))) hbH)
  have H7 := Lib.hid (box_below (g := w.heap.size + 1 + 1) (o := .cells #[.int .i64 0, .int .i64 0] 23 (0, 0)) (by repeat (first | (with_reducible exact box_new _ _) | (refine box_at ?_ _; simp; done) | (with_reducible refine box_alloc _ ?_) | (with_reducible refine box_drewN ?_ _) | (with_reducible refine box_drew ?_) | (with_reducible refine box_below ?_ (by assumption)))) hbH)
  have HB := Lib.hid (bthen (w := w) (by repeat (first | exact Below.refl _ _ | refine balloc ?_ _ | refine bdrewN ?_ _ | refine bdrew ?_ | refine bthen ?_ (by assumption))) hbH)
  clear hbH hcH
  have hh3 := box_lt H3.out
  have hh6 := box_lt H6.out
  have hh7 := box_lt H7.out
  obtain ⟨c0, c1, c2, c3, c4, c5, c6, c7⟩ := boxC H3.out
  have y6 := H6.out
  obtain ⟨y0, y1, y2, y3⟩ := box2 H6.out
  obtain ⟨z0, z1, z2, z3⟩ := box2 H7.out
  clear y6
  go_wp2_with fail
  have q6 := H6.out
  have q7 := H7.out
  have qB := HB.out
  refine bodyPost_ret (results_list (rs := [.cell 6 23, .cell 7 23, .tmp 8]) rfl (by simp) (.cell _ 23 #[.int .i64 0, .int .i64 0] (0, 0) _ rfl (by repeat (first | (with_reducible assumption) | (with_reducible refine box_drew ?_) | (with_reducible refine box_drewN ?_ _) | (with_reducible apply box_set2) | ((with_reducible refine box_far ?ne_ ?_); case ne_ => (first | (simp; done) | (simp; omega))))) Tryz.underlying23 rfl (by kernel_rfl) (.cell _ 23 #[.int .i64 0, .int .i64 0] (0, 0) _ rfl (by repeat (first | (with_reducible assumption) | (with_reducible refine box_drew ?_) | (with_reducible refine box_drewN ?_ _) | (with_reducible apply box_set2) | ((with_reducible refine box_far ?ne_ ?_); case ne_ => (first | (simp; done) | (simp; omega))))) Tryz.underlying23 rfl (by kernel_rfl) (.tmp .nil)))) rfl ⟨rfl, ?_⟩
  exact (by repeat (first | (with_reducible assumption) | exact Below.refl _ _ | refine bdrew ?_ | refine bdrewN ?_ _ | refine balloc ?_ _ | ((with_reducible refine bset ?_ ?p_ _); case p_ => (first | (simp; done) | (simp; omega))) | refine bthen ?_ (by assumption)))
theorem Gap_calls (c : Sp.Cl) (A : Option Addr) (cap : Nat) (l : List Sp.W) (d : Int) (w : World) (hr : Rd lW 3 w A l) :
    Calls Tryz.prog 38 #[vC c, .slice A l.length cap, .int .i64 d] w fun e w' => e = .returned (gapOut c l d) ∧ Below w.heap.size w w' := by
  unfold gapOut
  by_cases h : ckL c l = 0
  · rw [if_pos h]
    by_cases hd : 0 ≤ d ∧ d ≤ 1048576
    · rw [if_pos hd]; exact Gap_yes c A cap l d w hr h hd
    · rw [if_neg hd]; exact Gap_out c A cap l d w hr h hd
  · rw [if_neg h]; exact Gap_bad c A cap l d w hr h

end Go.Proofs.YtnpggmdpokcakaaGreatDoor
