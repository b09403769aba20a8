/- Contracts of package spring: gap. -/
import Derived.Test.YtnpggmdpokcakaaGreatDoorB0
set_option linter.unusedVariables false
set_option linter.unusedSimpArgs false
set_option linter.unnecessarySimpa false
namespace Go.Proofs.YtnpggmdpokcakaaGreatDoor
open Go.RowKit

theorem keepSset {wr W : World} {p : Addr} (v : Value) (hp : wr.heap.size ≤ p.block) (h : Below wr.heap.size wr W ∧ ∀ b o, b < wr.heap.size → W.cell? ⟨b, o, none⟩ = wr.cell? ⟨b, o, none⟩) :
    Below wr.heap.size wr (W.setCell p v) ∧ ∀ b o, b < wr.heap.size → (W.setCell p v).cell? ⟨b, o, none⟩ = wr.cell? ⟨b, o, none⟩ :=
  ⟨h.1.setCell hp _, fun b o hlt => (h.1.setCell hp v).cell (p := ⟨b, o, none⟩) hlt⟩
theorem keepB {wr W : World} (h : Below wr.heap.size wr W) : Below wr.heap.size wr W ∧ ∀ b o, b < wr.heap.size → W.cell? ⟨b, o, none⟩ = wr.cell? ⟨b, o, none⟩ := ⟨h, fun b o hlt => h.cell (p := ⟨b, o, none⟩) hlt⟩
set_option maxRecDepth 100000 in
set_option maxHeartbeats 4000000 in
theorem gap_calls (c : Sp.Cl) (A : Option Addr) (cap : Nat) (l : List Sp.W) (d : Int) (w : World) (hc : Sp.okCl c) (hr : Rd lW 3 w A l) (hl : ∀ x ∈ l, Sp.okW c x) (hd : 0 ≤ d ∧ d ≤ 1048576) :
    Calls Tryz.prog 108 #[vC c, .slice A l.length cap, .int .i64 d] w fun e w' => e = .returned (.tuple #[.agg #[.int .i64 (Sp.gLo c l d), .int .i64 (Sp.gHi c l d)], .agg #[.int .i64 (Sp.gR c l d).1, .int .i64 (Sp.gR c l d).2]]) ∧ Below w.heap.size w w' := by
  simp only [vC]
  have hlen := hr.1
  have HR := Lib.hid hr
  have HC := Lib.hid hc
  have HL := Lib.hid hl
  clear hr hc hl
  go_enter Tryz.func108, Tryz.ntmps108
  go_upto_region 1 with (fail)
  go_cut [8, 9] (fun p8 p9 wr => ∃ g8 g9 : Nat, p8 = .pointer (some ⟨g8, 0, none⟩) ∧ p9 = .pointer (some ⟨g9, 0, none⟩) ∧ w.heap.size + 1 + 1 < g8 ∧ w.heap.size + 1 + 1 < g9 ∧ Hid (g8 ≠ g9) ∧
    Hid (wr.heap[g8]? = some (.cells #[.int .i64 c.cold, .int .i64 c.warm] 23 (0, 0))) ∧ Hid (wr.heap[g9]? = some (.cells #[.int .i64 0, .int .i64 c.wet] 23 (0, 0))) ∧
    Hid (wr.heap[w.heap.size]? = some (.cells (cC c) 25 (0, 0))) ∧ Hid (wr.heap[w.heap.size + 1]? = some (.cells #[.int .i64 0, .int .i64 0] 23 (0, 0))) ∧ Hid (wr.heap[w.heap.size + 1 + 1]? = some (.cells #[.int .i64 0, .int .i64 0] 23 (0, 0))) ∧
    Hid (Below w.heap.size w wr))
  case first =>
    go_region_held3 (fun W => Below (w.alloc (.cells (cC c) 25)).heap.size (w.alloc (.cells (cC c) 25)) W ∧ ∀ b o, b < (w.alloc (.cells (cC c) 25)).heap.size → W.cell? ⟨b, o, none⟩ = (w.alloc (.cells (cC c) 25)).cell? ⟨b, o, none⟩)
      (exact keepB (by repeat (first | exact Below.refl _ _ | refine balloc ?_ _ | refine bdrewN ?_ _ | refine bdrew ?_ | refine bthen ?_ (by assumption))))
      (fail)
    all_goals
      go_wp2
      go_meet
      case rel => exact ⟨_, _, rfl, rfl, by omega, by omega, Lib.hid (by omega), Lib.hid (by repeat (first | (with_reducible exact box_new _ _) | (refine box_at ?_ _; simp; done) | (with_reducible refine box_alloc _ ?_) | (with_reducible refine box_drewN ?_ _) | (with_reducible refine box_drew ?_) | (with_reducible refine box_below ?_ (by assumption)))), Lib.hid (by repeat (first | (with_reducible exact box_new _ _) | (refine box_at ?_ _; simp; done) | (with_reducible refine box_alloc _ ?_) | (with_reducible refine box_drewN ?_ _) | (with_reducible refine box_drew ?_) | (with_reducible refine box_below ?_ (by assumption)))), Lib.hid (by repeat (first | (with_reducible exact box_new _ _) | (refine box_at ?_ _; simp; done) | (with_reducible refine box_alloc _ ?_) | (with_reducible refine box_drewN ?_ _) | (with_reducible refine box_drew ?_) | (with_reducible refine box_below ?_ (by assumption)))), Lib.hid (by repeat (first | (with_reducible exact box_new _ _) | (refine box_at ?_ _; simp; done) | (with_reducible refine box_alloc _ ?_) | (with_reducible refine box_drewN ?_ _) | (with_reducible refine box_drew ?_) | (with_reducible refine box_below ?_ (by assumption)))), Lib.hid (by repeat (first | (with_reducible exact box_new _ _) | (refine box_at ?_ _; simp; done) | (with_reducible refine box_alloc _ ?_) | (with_reducible refine box_drewN ?_ _) | (with_reducible refine box_drew ?_) | (with_reducible refine box_below ?_ (by assumption)))), Lib.hid (by repeat (first | exact Below.refl _ _ | refine balloc ?_ _ | refine bdrewN ?_ _ | refine bdrew ?_ | refine bthen ?_ (by assumption)))⟩
  case rest =>
    obtain ⟨g8, g9, rfl, rfl, hg8, hg9, HNE, H8, H9, HX, H6, H7, HB⟩ := hcut
    go_wp2_with fail
    go_loopw [23] (fun i wr => ∃ k : Nat, k ≤ l.length ∧ i = .int .i64 k ∧
      Hid (wr.heap[g8]? = some (.cells #[.int .i64 (Sp.gapLo c d (l.take k) c.cold), .int .i64 (Sp.gapHi c d (l.take k) c.warm)] 23 (0, 0))) ∧
      Hid (wr.heap[g9]? = some (.cells #[.int .i64 (Sp.gapR d (l.take k) (0, c.wet)).1, .int .i64 (Sp.gapR d (l.take k) (0, c.wet)).2] 23 (0, 0))) ∧
      Hid (wr.heap[w.heap.size]? = some (.cells (cC c) 25 (0, 0))) ∧ Hid (wr.heap[w.heap.size + 1]? = some (.cells #[.int .i64 0, .int .i64 0] 23 (0, 0))) ∧ Hid (wr.heap[w.heap.size + 1 + 1]? = some (.cells #[.int .i64 0, .int .i64 0] 23 (0, 0))) ∧
      Hid (Below w.heap.size w wr)) (fun i _ => l.length - (intOf i).toNat)
    case atStart => exact ⟨0, Nat.zero_le _, rfl, H8, H9, HX, H6, H7, HB⟩
    case round => 
      obtain ⟨k, hk, rfl, H8, H9, HX, H6, H7, HB⟩ := hrel
      by_cases hlt : k < l.length
      · obtain ⟨b, off, hA, hbk, x0, x1, x2⟩ := (HR.out.below HB.out).atW hlt
        subst hA
        obtain ⟨c0, c1, c2, c3, c4, c5, c6, c7⟩ := boxC HX.out
        have hg := box_lt HX.out
        obtain ⟨a1, ha1⟩ : ∃ a, Sp.gapLo c d (l.take k) c.cold = a := ⟨_, rfl⟩
        obtain ⟨a2, ha2⟩ : ∃ a, Sp.gapHi c d (l.take k) c.warm = a := ⟨_, rfl⟩
        obtain ⟨r, hr⟩ : ∃ a, Sp.gapR d (l.take k) (0, c.wet) = a := ⟨_, rfl⟩
        rw [ha1, ha2] at H8
        rw [hr] at H9
        have hgB := box_lt H8.out
        have hgR := box_lt H9.out
        obtain ⟨y0, y1, y2, y3⟩ := box2 H8.out
        obtain ⟨z0, z1, z2, z3⟩ := box2 H9.out
        obtain ⟨x, hx⟩ : ∃ x, l[k] = x := ⟨_, rfl⟩
        have hw := HL.out l[k] (List.getElem_mem hlt)
        rw [hx] at x0 x1 x2 hw
        have hT : l.take (k + 1) = l.take k ++ [x] := by rw [← hx]; exact List.take_succ_eq_append_getElem hlt
        have HLo := Sp.gapLo_snoc c d x (l.take k) c.cold
        have HHi := Sp.gapHi_snoc c d x (l.take k) c.warm
        have HRr := Sp.gapR_snoc d x (l.take k) (0, c.wet)
        rw [← hT, ha1] at HLo
        rw [← hT, ha2] at HHi
        rw [← hT, hr] at HRr
        have hrg := okW_range HC.out hw
        clear hx hT ha1 ha2 hr hw
        obtain ⟨hx0, hx1, hx2⟩ := hrg
        have hs := HC.out.2.2.1
        have hm := swing_bound hs (ab_bound hx0 hd)
        obtain ⟨q, hq⟩ : ∃ q, c.swing * Sp.ab (x.day - d) = q := ⟨_, rfl⟩
        have hfar : Sp.far c x d = q := hq
        rw [hfar] at HLo HHi
        have HLo := Lib.hid HLo
        have HHi := Lib.hid HHi
        have HRr := Lib.hid HRr
        have hq2 := hm
        rw [hq] at hq2
        have hi0 : (0 : Int) ≤ (k : Int) := by omega
        have hi1 : (k : Int) < (l.length : Int) := by omega
        have hbs := HB.out.size
        go_wp2_with fail
        have hext := Ext.cells (wr.alloc (.cells #[.int .i64 x.day, .int .i64 x.temp, .int .i64 x.rain] 36))
        refine wp_region_ext (by kernel_rfl) (by kernel_rfl) ?_
        repeat (go_big_quiet_step ((go_at_call 169; exact ext_same (size_calls _ _ (by omega)))))
        refine wpQuiet_nil ?_
        rintro _ ⟨⟨W1, hb1⟩, rfl⟩
        have H8 := Lib.hid (box_below (box_alloc _ H8.out) hb1)
        have H9 := Lib.hid (box_below (box_alloc _ H9.out) hb1)
        have HX := Lib.hid (box_below (box_alloc _ HX.out) hb1)
        have H6 := Lib.hid (box_below (box_alloc _ H6.out) hb1)
        have H7 := Lib.hid (box_below (box_alloc _ H7.out) hb1)
        have HW := Lib.hid (box_below (box_new wr _) hb1)
        have HB := Lib.hid (bthen (balloc HB.out _) hb1)
        clear hext hb1 y0 y1 y2 y3 z0 z1 z2 z3
        have t0 := box_cell HW.out 0
        have t1 := box_cell HW.out 1
        have t2 := box_cell HW.out 2
        obtain ⟨y0, y1, y2, y3⟩ := box2 H8.out
        obtain ⟨z0, z1, z2, z3⟩ := box2 H9.out
        have hgB1 := box_lt H8.out
        have hgR1 := box_lt H9.out
        have hgW1 := box_lt HW.out
        have hne := HNE.out
        have hne2 := Ne.symm hne
        by_cases hxd : x.day = d
        · rw [if_pos hxd] at HRr
          go_wp2_with fail
          refine ⟨⟨k + 1, hlt, rfl, Lib.hid ?_, Lib.hid ?_, Lib.hid ?_, Lib.hid ?_, Lib.hid ?_, Lib.hid ?_⟩, by simp [intOf]; omega⟩
          · rw [HLo.out, HHi.out]; exact box_far hne (box_far hne (box_set2 H8.out))
          · rw [HRr.out]; exact box_set2 (box_far hne2 (box_far hne2 H9.out))
          · exact box_far (by simp; omega) (box_far (by simp; omega) (box_far (by simp; omega) (box_far (by simp; omega) HX.out)))
          · exact box_far (by simp; omega) (box_far (by simp; omega) (box_far (by simp; omega) (box_far (by simp; omega) H6.out)))
          · exact box_far (by simp; omega) (box_far (by simp; omega) (box_far (by simp; omega) (box_far (by simp; omega) H7.out)))
          · exact bset (bset (bset (bset HB.out (by simp; omega) _) (by simp; omega) _) (by simp; omega) _) (by simp; omega) _
        · rw [if_neg hxd] at HRr
          go_wp2_with fail
          refine ⟨⟨k + 1, hlt, rfl, Lib.hid ?_, Lib.hid ?_, Lib.hid ?_, Lib.hid ?_, Lib.hid ?_, Lib.hid ?_⟩, by simp [intOf]; omega⟩
          · rw [HLo.out, HHi.out]; exact box_set2 H8.out
          · rw [HRr.out]; exact box_far hne2 (box_far hne2 H9.out)
          · exact box_far (by simp; omega) (box_far (by simp; omega) HX.out)
          · exact box_far (by simp; omega) (box_far (by simp; omega) H6.out)
          · exact box_far (by simp; omega) (box_far (by simp; omega) H7.out)
          · exact bset (bset HB.out (by simp; omega) _) (by simp; omega) _
      · have hkl : k = l.length := by omega
        subst hkl
        rw [List.take_length] at H8 H9
        obtain ⟨y0, y1, y2, y3⟩ := box2 H8.out
        obtain ⟨z0, z1, z2, z3⟩ := box2 H9.out
        have hgB := box_lt H8.out
        have hgR := box_lt H9.out
        have hg6 := box_lt H6.out
        have hg7 := box_lt H7.out
        obtain ⟨u0, u1, u2, u3⟩ := box2 H6.out
        obtain ⟨v0, v1, v2, v3⟩ := box2 H7.out
        have hbs := HB.out.size
        go_wp2_with fail
        go_region
        all_goals
          go_wp2
          have q6 := H6.out
          have q7 := H7.out
          have qB := HB.out
          refine bodyPost_ret (results_list (rs := [.cell 6 23, .cell 7 23]) rfl (by simp) (.cell _ 23 #[.int .i64 (Sp.gapLo c d l c.cold), .int .i64 (Sp.gapHi c d l c.warm)] (0, 0) _ rfl (by repeat (first | (with_reducible assumption) | (with_reducible refine box_drew ?_) | (with_reducible refine box_drewN ?_ _) | (with_reducible apply box_set2) | ((with_reducible refine box_far ?ne_ ?_); case ne_ => (first | (simp; done) | (simp; omega))))) Tryz.underlying23 rfl (by kernel_rfl) (.cell _ 23 #[.int .i64 (Sp.gapR d l (0, c.wet)).1, .int .i64 (Sp.gapR d l (0, c.wet)).2] (0, 0) _ rfl (by repeat (first | (with_reducible assumption) | (with_reducible refine box_drew ?_) | (with_reducible refine box_drewN ?_ _) | (with_reducible apply box_set2) | ((with_reducible refine box_far ?ne_ ?_); case ne_ => (first | (simp; done) | (simp; omega))))) Tryz.underlying23 rfl (by kernel_rfl) .nil))) rfl ⟨rfl, ?_⟩
          exact (by repeat (first | (with_reducible assumption) | exact Below.refl _ _ | refine bdrew ?_ | refine bdrewN ?_ _ | refine balloc ?_ _ | ((with_reducible refine bset ?_ ?p_ _); case p_ => (first | (simp; done) | (simp; omega))) | refine bthen ?_ (by assumption)))

end Go.Proofs.YtnpggmdpokcakaaGreatDoor
