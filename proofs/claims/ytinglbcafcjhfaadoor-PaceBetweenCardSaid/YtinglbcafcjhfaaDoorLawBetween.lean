/- The walk of the law PaceBetween. -/
import Derived.Test.YtinglbcafcjhfaaDoorLawA
import Derived.Test.YtinglbcafcjhfaaDoorRefD
import Derived.Lib.QuietBelow
namespace Go.Proofs.YtinglbcafcjhfaaDoor
open Go.RowKit
set_option linter.unusedVariables false
set_option linter.unusedSimpArgs false

def TruePost (w : World) (e : Ending) (w' : World) : Prop := e = .returned (.bool true) ∧ Below w.heap.size w w'
set_option maxRecDepth 100000 in
set_option maxHeartbeats 2000000 in
theorem law_PaceBetween (s : Speeds) (r : Road) (a b : Int) (A0 A1 A2 B2 B3 : Option Addr) (n0 n1 n2 m2 m3 c0 c1 c2 d2 d3 : Nat) (w : World) (h0 : Rd 5 Piece.enc w A0 n0 r.pieces) (h1 : Rd 2 Crest.enc w A1 n1 r.crests) (h2 : Rd 3 Junction.enc w A2 n2 r.juncs) (g2 : Rd 3 SpeedRow.enc w B2 m2 s.rows) (g3 : Rd 1 intEnc w B3 m3 s.surface) (ht : Tab w) :
    Calls Tryd.prog 3 #[.agg #[.slice A0 n0 c0, .slice A1 n1 c1, .slice A2 n2 c2], .agg #[.int .i64 s.least, .int .i64 s.most, .slice B2 m2 d2, .slice B3 m3 d3], .int .i64 a, .int .i64 b] w (TruePost w) := by
  have e1 := h1.1
  have e2 := h2.1
  have f2 := g2.1
  have f3 := g3.1
  have E1 := Lib.hid e1
  have E2 := Lib.hid e2
  have F2 := Lib.hid f2
  have F3 := Lib.hid f3
  have HT := Lib.hid ht
  clear e1 e2 f2 f3 ht
  have H0 := Lib.hid h0; have H1 := Lib.hid h1; have H2 := Lib.hid h2; have G2 := Lib.hid g2; have G3 := Lib.hid g3; clear h0 h1 h2 g2 g3
  by_cases hfew : Few r
  rotate_left
  · have hb1 := bo_false hfew
    clear hfew
    go_enter Tryd.func3, Tryd.ntmps3
    go_wp2_with (first
      | (go_at_call 16; go_must ((refine (law_few r A0 A1 A2 n0 n1 n2 c0 c1 c2 _ (H0.out.below (by repeat (first | assumption | exact Below.refl _ _ | apply bel_alloc | apply bel_drew | apply bel_drewN | (refine bel_set ?_ (by first | assumption | omega | (simp; done) | (simp; omega)) _)))) E1.out E2.out).mono ?_; rintro e w1 ⟨rfl, hw1⟩; have CS : Blk w1 (w.heap.size + 1) 30 #[.int .i64 s.least, .int .i64 s.most, .slice B2 m2 d2, .slice B3 m3 d3] := (Blk.new_at _ _ _ _ (by simp)).below hw1; have CR : Blk w1 w.heap.size 26 #[.slice A0 n0 c0, .slice A1 n1 c1, .slice A2 n2 c2] := ((Blk.new _ _ _).alloc _).below hw1; have s0 := CS.cell 0; have s1 := CS.cell 1; have s2 := CS.cell 2; have s3 := CS.cell 3; have HCS := Lib.hid CS; have HCR := Lib.hid CR; clear CS CR; have hv1 : Below w.heap.size w w1 := bel_then (by repeat (first | assumption | exact Below.refl _ _ | apply bel_alloc | apply bel_drew | apply bel_drewN | (refine bel_set ?_ (by first | assumption | omega | (simp; done) | (simp; omega)) _))) hw1; have HB1 := Lib.hid hv1; clear hw1 hv1)))
      | (go_at_call 18; go_must ((refine (known_ _ (HT.out.below HB1.out)).mono ?_; rintro e w2 ⟨rfl, hw2⟩))))
    go_ret
    exact ⟨rfl, bel_then HB1.out hw2⟩
  have hb1 := bo_true hfew
  have HFEW := Lib.hid hfew
  clear hfew
  by_cases hquick : Quick s
  rotate_left
  · have hb2 := bo_false hquick
    clear hquick
    go_enter Tryd.func3, Tryd.ntmps3
    go_wp2_with (first
      | (go_at_call 16; go_must ((refine (law_few r A0 A1 A2 n0 n1 n2 c0 c1 c2 _ (H0.out.below (by repeat (first | assumption | exact Below.refl _ _ | apply bel_alloc | apply bel_drew | apply bel_drewN | (refine bel_set ?_ (by first | assumption | omega | (simp; done) | (simp; omega)) _)))) E1.out E2.out).mono ?_; rintro e w1 ⟨rfl, hw1⟩; have CS : Blk w1 (w.heap.size + 1) 30 #[.int .i64 s.least, .int .i64 s.most, .slice B2 m2 d2, .slice B3 m3 d3] := (Blk.new_at _ _ _ _ (by simp)).below hw1; have CR : Blk w1 w.heap.size 26 #[.slice A0 n0 c0, .slice A1 n1 c1, .slice A2 n2 c2] := ((Blk.new _ _ _).alloc _).below hw1; have s0 := CS.cell 0; have s1 := CS.cell 1; have s2 := CS.cell 2; have s3 := CS.cell 3; have HCS := Lib.hid CS; have HCR := Lib.hid CR; clear CS CR; have hv1 : Below w.heap.size w w1 := bel_then (by repeat (first | assumption | exact Below.refl _ _ | apply bel_alloc | apply bel_drew | apply bel_drewN | (refine bel_set ?_ (by first | assumption | omega | (simp; done) | (simp; omega)) _))) hw1; have HB1 := Lib.hid hv1; clear hw1 hv1)))
      | (go_at_call 17; go_must ((refine (law_quick s B2 B3 m2 m3 d2 d3 _ F2.out F3.out).mono ?_; rintro e w2 ⟨rfl, hw2⟩; have CS := HCS.out.below hw2; have CR := HCR.out.below hw2; clear s0 s1 s2 s3; have s0 := CS.cell 0; have s1 := CS.cell 1; have s2 := CS.cell 2; have s3 := CS.cell 3; have r0 := CR.cell 0; have r1 := CR.cell 1; have r2 := CR.cell 2; have HCS := Lib.hid CS; have HCR := Lib.hid CR; clear CS CR; have HB2 := Lib.hid (bel_then HB1.out hw2); clear hw2)))
      | (go_at_call 18; go_must ((refine (known_ _ (HT.out.below HB2.out)).mono ?_; rintro e w3 ⟨rfl, hw3⟩))))
    go_ret
    exact ⟨rfl, bel_then HB2.out hw3⟩
  have hb2 := bo_true hquick
  have HQ := Lib.hid hquick
  clear hquick
  by_cases hok : BtwOk s r a b
  · have hck : s.chk = 0 := Speeds.chk_ok hok.2.1
    have hsb : bo s.Valid = true := bo_true hok.2.1
    have hfi : bo (Fine r s) = true := bo_true ⟨hok.1, hok.2.1⟩
    obtain ⟨t1, t2, t3⟩ := hok.2.2
    have q1 : decide (a < 0) = false := by simp; omega
    have q2 : decide (b < a) = false := by simp; omega
    have q3 : decide (r.length < b) = false := by simp; omega
    have HOK := Lib.hid hok
    clear hok t1 t2 t3
    go_enter Tryd.func3, Tryd.ntmps3
    go_wp2_with (first
      | (go_at_call 16; go_must ((refine (law_few r A0 A1 A2 n0 n1 n2 c0 c1 c2 _ (H0.out.below (by repeat (first | assumption | exact Below.refl _ _ | apply bel_alloc | apply bel_drew | apply bel_drewN | (refine bel_set ?_ (by first | assumption | omega | (simp; done) | (simp; omega)) _)))) E1.out E2.out).mono ?_; rintro e w1 ⟨rfl, hw1⟩; have CS : Blk w1 (w.heap.size + 1) 30 #[.int .i64 s.least, .int .i64 s.most, .slice B2 m2 d2, .slice B3 m3 d3] := (Blk.new_at _ _ _ _ (by simp)).below hw1; have CR : Blk w1 w.heap.size 26 #[.slice A0 n0 c0, .slice A1 n1 c1, .slice A2 n2 c2] := ((Blk.new _ _ _).alloc _).below hw1; have s0 := CS.cell 0; have s1 := CS.cell 1; have s2 := CS.cell 2; have s3 := CS.cell 3; have HCS := Lib.hid CS; have HCR := Lib.hid CR; clear CS CR; have hv1 : Below w.heap.size w w1 := bel_then (by repeat (first | assumption | exact Below.refl _ _ | apply bel_alloc | apply bel_drew | apply bel_drewN | (refine bel_set ?_ (by first | assumption | omega | (simp; done) | (simp; omega)) _))) hw1; have HB1 := Lib.hid hv1; clear hw1 hv1)))
      | (go_at_call 17; go_must ((refine (law_quick s B2 B3 m2 m3 d2 d3 _ F2.out F3.out).mono ?_; rintro e w2 ⟨rfl, hw2⟩; have CS := HCS.out.below hw2; have CR := HCR.out.below hw2; clear s0 s1 s2 s3; have s0 := CS.cell 0; have s1 := CS.cell 1; have s2 := CS.cell 2; have s3 := CS.cell 3; have r0 := CR.cell 0; have r1 := CR.cell 1; have r2 := CR.cell 2; have HCS := Lib.hid CS; have HCR := Lib.hid CR; clear CS CR; have HB2 := Lib.hid (bel_then HB1.out hw2); clear hw2)))
      | (go_at_call 19; go_must ((refine (pace_Between_yes s r A0 A1 A2 B2 B3 n0 n1 n2 m2 m3 c0 c1 c2 d2 d3 a b _ (H0.out.below HB2.out) (H1.out.below HB2.out) (H2.out.below HB2.out) (G2.out.below HB2.out) (G3.out.below HB2.out) HOK.out).mono ?_; rintro e w3 ⟨rfl, hw3⟩; have CS := HCS.out.below hw3; have CR := HCR.out.below hw3; (try clear s0 s1 s2 s3); (try clear r0 r1 r2); have s0 := CS.cell 0; have s1 := CS.cell 1; have s2 := CS.cell 2; have s3 := CS.cell 3; have r0 := CR.cell 0; have r1 := CR.cell 1; have r2 := CR.cell 2; have HCS := Lib.hid CS; have HCR := Lib.hid CR; clear CS CR; have HB3 := Lib.hid (bel_then HB2.out hw3); clear hw3))))
    have k0 := cell_regrown (show w3.cell? ⟨w.heap.size + 1, 0, none⟩ = some (.int .i64 s.least) from HCS.out.cell 0); have k1 := cell_regrown (show w3.cell? ⟨w.heap.size + 1, 1, none⟩ = some (.int .i64 s.most) from HCS.out.cell 1); have k2 := cell_regrown (show w3.cell? ⟨w.heap.size + 1, 2, none⟩ = some (.slice B2 m2 d2) from HCS.out.cell 2); have k3 := cell_regrown (show w3.cell? ⟨w.heap.size + 1, 3, none⟩ = some (.slice B3 m3 d3) from HCS.out.cell 3)
    refine wp_region_quiet_below (by kernel_rfl) (by kernel_rfl) ?_; (repeat (go_big_quiet_step ((first | (go_at_call 20; exact Calls.regrown_of (pace_Check s B2 B3 m2 m3 d2 d3 _ ((G2.out.below HB3.out).below (below_regrown w3 _ _)) ((G3.out.below HB3.out).below (below_regrown w3 _ _)))) | (go_at_call 21; exact Calls.regrown_of (ref3_Speeds s B2 B3 m2 m3 d2 d3 _ ((G2.out.below HB3.out).below (below_regrown w3 _ _)) ((G3.out.below HB3.out).below (below_regrown w3 _ _)))))))); refine wpQuiet_nil ?_; intro _ hw'; obtain ⟨⟨dq, osq⟩, hw''⟩ := hw'; subst hw''
    clear k0 k1 k2 k3
    obtain ⟨w4, hw4⟩ : ∃ w4, Sort.grow (redrawn w3 dq) osq = w4 := ⟨_, rfl⟩
    have hv4 : Below w3.heap.size w3 w4 := by rw [← hw4]; exact below_regrown w3 _ _
    have HB4 := Lib.hid (bel_then HB3.out hv4)
    have CS := HCS.out.below hv4; have CR := HCR.out.below hv4; (try clear s0 s1 s2 s3); (try clear r0 r1 r2); have s0 := CS.cell 0; have s1 := CS.cell 1; have s2 := CS.cell 2; have s3 := CS.cell 3; have r0 := CR.cell 0; have r1 := CR.cell 1; have r2 := CR.cell 2; have HCS := Lib.hid CS; have HCR := Lib.hid CR; clear CS CR
    rw [hw4]
    clear hw4 hv4
    go_wp2_with (first
      | (go_at_call 22; go_must ((refine (law_fine s r A0 A1 A2 B2 B3 n0 n1 n2 m2 m3 c0 c1 c2 d2 d3 _ (H0.out.below HB4.out) (H1.out.below HB4.out) (H2.out.below HB4.out) (G2.out.below HB4.out) (G3.out.below HB4.out)).mono ?_; rintro e w5 ⟨rfl, hw5⟩; have CS := HCS.out.below hw5; have CR := HCR.out.below hw5; (try clear s0 s1 s2 s3); (try clear r0 r1 r2); have s0 := CS.cell 0; have s1 := CS.cell 1; have s2 := CS.cell 2; have s3 := CS.cell 3; have r0 := CR.cell 0; have r1 := CR.cell 1; have r2 := CR.cell 2; have HCS := Lib.hid CS; have HCR := Lib.hid CR; clear CS CR; have HB5 := Lib.hid (bel_then HB4.out hw5); clear hw5)))
      | (go_at_call 23; go_must ((refine (ref3_Length r A0 A1 A2 n0 n1 n2 c0 c1 c2 _ (H0.out.below HB5.out) HOK.out.1.fit).mono ?_; rintro e w6 ⟨rfl, hw6⟩; have CS := HCS.out.below hw6; have CR := HCR.out.below hw6; (try clear s0 s1 s2 s3); (try clear r0 r1 r2); have s0 := CS.cell 0; have s1 := CS.cell 1; have s2 := CS.cell 2; have s3 := CS.cell 3; have r0 := CR.cell 0; have r1 := CR.cell 1; have r2 := CR.cell 2; have HCS := Lib.hid CS; have HCR := Lib.hid CR; clear CS CR; have HB6 := Lib.hid (bel_then HB5.out hw6); clear hw6)))
      | (go_at_call 24; go_must ((refine (ref3_Between s r A0 A1 A2 B2 B3 n0 n1 n2 m2 m3 c0 c1 c2 d2 d3 a b _ (H0.out.below HB6.out) (G2.out.below HB6.out) (G3.out.below HB6.out) HOK.out).mono ?_; rintro e w7 ⟨rfl, hw7⟩; have HB7 := Lib.hid (bel_then HB6.out hw7); clear hw7)))
      | (go_at_call 18; go_must ((refine (known_ _ (HT.out.below HB7.out)).mono ?_; rintro e w8 ⟨rfl, hw8⟩))))
    go_ret
    exact ⟨rfl, bel_then HB7.out hw8⟩
  · have HNO := Lib.hid hok
    by_cases hs : s.Valid
    · have hck : s.chk = 0 := Speeds.chk_ok hs
      have hsb : bo s.Valid = true := bo_true hs
      by_cases hr : r.Valid
      · have hfi : bo (Fine r s) = true := bo_true ⟨hr, hs⟩
        have HRV := Lib.hid hr
        have hq : decide (a < 0) = true ∨ decide (a < 0) = false ∧ decide (b < a) = true ∨ decide (a < 0) = false ∧ decide (b < a) = false ∧ decide (r.length < b) = true := by
          simp only [decide_eq_true_eq, decide_eq_false_iff_not]
          refine Classical.byContradiction fun h => hok ⟨hr, hs, ?_, ?_, ?_⟩ <;> omega
        clear hok hr hs
        rcases hq with q1 | ⟨q1, q2⟩ | ⟨q1, q2, q3⟩
        all_goals
          go_enter Tryd.func3, Tryd.ntmps3
          go_wp2_with (first
            | (go_at_call 16; go_must ((refine (law_few r A0 A1 A2 n0 n1 n2 c0 c1 c2 _ (H0.out.below (by repeat (first | assumption | exact Below.refl _ _ | apply bel_alloc | apply bel_drew | apply bel_drewN | (refine bel_set ?_ (by first | assumption | omega | (simp; done) | (simp; omega)) _)))) E1.out E2.out).mono ?_; rintro e w1 ⟨rfl, hw1⟩; have CS : Blk w1 (w.heap.size + 1) 30 #[.int .i64 s.least, .int .i64 s.most, .slice B2 m2 d2, .slice B3 m3 d3] := (Blk.new_at _ _ _ _ (by simp)).below hw1; have CR : Blk w1 w.heap.size 26 #[.slice A0 n0 c0, .slice A1 n1 c1, .slice A2 n2 c2] := ((Blk.new _ _ _).alloc _).below hw1; have s0 := CS.cell 0; have s1 := CS.cell 1; have s2 := CS.cell 2; have s3 := CS.cell 3; have HCS := Lib.hid CS; have HCR := Lib.hid CR; clear CS CR; have hv1 : Below w.heap.size w w1 := bel_then (by repeat (first | assumption | exact Below.refl _ _ | apply bel_alloc | apply bel_drew | apply bel_drewN | (refine bel_set ?_ (by first | assumption | omega | (simp; done) | (simp; omega)) _))) hw1; have HB1 := Lib.hid hv1; clear hw1 hv1)))
            | (go_at_call 17; go_must ((refine (law_quick s B2 B3 m2 m3 d2 d3 _ F2.out F3.out).mono ?_; rintro e w2 ⟨rfl, hw2⟩; have CS := HCS.out.below hw2; have CR := HCR.out.below hw2; clear s0 s1 s2 s3; have s0 := CS.cell 0; have s1 := CS.cell 1; have s2 := CS.cell 2; have s3 := CS.cell 3; have r0 := CR.cell 0; have r1 := CR.cell 1; have r2 := CR.cell 2; have HCS := Lib.hid CS; have HCR := Lib.hid CR; clear CS CR; have HB2 := Lib.hid (bel_then HB1.out hw2); clear hw2)))
            | (go_at_call 19; go_must ((refine (pace_Between_no s r A0 A1 A2 B2 B3 n0 n1 n2 m2 m3 c0 c1 c2 d2 d3 a b _ (H0.out.below HB2.out) (H1.out.below HB2.out) (H2.out.below HB2.out) (G2.out.below HB2.out) (G3.out.below HB2.out) HNO.out).mono ?_; rintro e w3 ⟨rfl, hw3⟩; have CS := HCS.out.below hw3; have CR := HCR.out.below hw3; (try clear s0 s1 s2 s3); (try clear r0 r1 r2); have s0 := CS.cell 0; have s1 := CS.cell 1; have s2 := CS.cell 2; have s3 := CS.cell 3; have r0 := CR.cell 0; have r1 := CR.cell 1; have r2 := CR.cell 2; have HCS := Lib.hid CS; have HCR := Lib.hid CR; clear CS CR; have HB3 := Lib.hid (bel_then HB2.out hw3); clear hw3))))
          have k0 := cell_regrown (show w3.cell? ⟨w.heap.size + 1, 0, none⟩ = some (.int .i64 s.least) from HCS.out.cell 0); have k1 := cell_regrown (show w3.cell? ⟨w.heap.size + 1, 1, none⟩ = some (.int .i64 s.most) from HCS.out.cell 1); have k2 := cell_regrown (show w3.cell? ⟨w.heap.size + 1, 2, none⟩ = some (.slice B2 m2 d2) from HCS.out.cell 2); have k3 := cell_regrown (show w3.cell? ⟨w.heap.size + 1, 3, none⟩ = some (.slice B3 m3 d3) from HCS.out.cell 3)
          refine wp_region_quiet_below (by kernel_rfl) (by kernel_rfl) ?_; (repeat (go_big_quiet_step ((first | (go_at_call 20; exact Calls.regrown_of (pace_Check s B2 B3 m2 m3 d2 d3 _ ((G2.out.below HB3.out).below (below_regrown w3 _ _)) ((G3.out.below HB3.out).below (below_regrown w3 _ _)))) | (go_at_call 21; exact Calls.regrown_of (ref3_Speeds s B2 B3 m2 m3 d2 d3 _ ((G2.out.below HB3.out).below (below_regrown w3 _ _)) ((G3.out.below HB3.out).below (below_regrown w3 _ _)))))))); refine wpQuiet_nil ?_; intro _ hw'; obtain ⟨⟨dq, osq⟩, hw''⟩ := hw'; subst hw''
          clear k0 k1 k2 k3
          obtain ⟨w4, hw4⟩ : ∃ w4, Sort.grow (redrawn w3 dq) osq = w4 := ⟨_, rfl⟩
          have hv4 : Below w3.heap.size w3 w4 := by rw [← hw4]; exact below_regrown w3 _ _
          have HB4 := Lib.hid (bel_then HB3.out hv4)
          have CS := HCS.out.below hv4; have CR := HCR.out.below hv4; (try clear s0 s1 s2 s3); (try clear r0 r1 r2); have s0 := CS.cell 0; have s1 := CS.cell 1; have s2 := CS.cell 2; have s3 := CS.cell 3; have r0 := CR.cell 0; have r1 := CR.cell 1; have r2 := CR.cell 2; have HCS := Lib.hid CS; have HCR := Lib.hid CR; clear CS CR
          rw [hw4]
          clear hw4 hv4
          go_wp2_with (first
            | (go_at_call 22; go_must ((refine (law_fine s r A0 A1 A2 B2 B3 n0 n1 n2 m2 m3 c0 c1 c2 d2 d3 _ (H0.out.below HB4.out) (H1.out.below HB4.out) (H2.out.below HB4.out) (G2.out.below HB4.out) (G3.out.below HB4.out)).mono ?_; rintro e w5 ⟨rfl, hw5⟩; have CS := HCS.out.below hw5; have CR := HCR.out.below hw5; (try clear s0 s1 s2 s3); (try clear r0 r1 r2); have s0 := CS.cell 0; have s1 := CS.cell 1; have s2 := CS.cell 2; have s3 := CS.cell 3; have r0 := CR.cell 0; have r1 := CR.cell 1; have r2 := CR.cell 2; have HCS := Lib.hid CS; have HCR := Lib.hid CR; clear CS CR; have HB5 := Lib.hid (bel_then HB4.out hw5); clear hw5)))
            | (go_at_call 23; go_must ((refine (ref3_Length r A0 A1 A2 n0 n1 n2 c0 c1 c2 _ (H0.out.below HB5.out) HRV.out.fit).mono ?_; rintro e w6 ⟨rfl, hw6⟩; have CS := HCS.out.below hw6; have CR := HCR.out.below hw6; (try clear s0 s1 s2 s3); (try clear r0 r1 r2); have s0 := CS.cell 0; have s1 := CS.cell 1; have s2 := CS.cell 2; have s3 := CS.cell 3; have r0 := CR.cell 0; have r1 := CR.cell 1; have r2 := CR.cell 2; have HCS := Lib.hid CS; have HCR := Lib.hid CR; clear CS CR; have HB6 := Lib.hid (bel_then HB5.out hw6); clear hw6)))
            | (go_at_call 18; go_must (((first | refine (known_ _ (HT.out.below HB6.out)).mono ?_ | refine (known_ _ (HT.out.below HB5.out)).mono ?_); rintro e w8 ⟨rfl, hw8⟩))))
          go_ret
          first | exact ⟨rfl, bel_then HB6.out hw8⟩ | exact ⟨rfl, bel_then HB5.out hw8⟩
      · have hfi : bo (Fine r s) = false := bo_false fun h => hr h.1
        clear hok hr hs
        go_enter Tryd.func3, Tryd.ntmps3
        go_wp2_with (first
          | (go_at_call 16; go_must ((refine (law_few r A0 A1 A2 n0 n1 n2 c0 c1 c2 _ (H0.out.below (by repeat (first | assumption | exact Below.refl _ _ | apply bel_alloc | apply bel_drew | apply bel_drewN | (refine bel_set ?_ (by first | assumption | omega | (simp; done) | (simp; omega)) _)))) E1.out E2.out).mono ?_; rintro e w1 ⟨rfl, hw1⟩; have CS : Blk w1 (w.heap.size + 1) 30 #[.int .i64 s.least, .int .i64 s.most, .slice B2 m2 d2, .slice B3 m3 d3] := (Blk.new_at _ _ _ _ (by simp)).below hw1; have CR : Blk w1 w.heap.size 26 #[.slice A0 n0 c0, .slice A1 n1 c1, .slice A2 n2 c2] := ((Blk.new _ _ _).alloc _).below hw1; have s0 := CS.cell 0; have s1 := CS.cell 1; have s2 := CS.cell 2; have s3 := CS.cell 3; have HCS := Lib.hid CS; have HCR := Lib.hid CR; clear CS CR; have hv1 : Below w.heap.size w w1 := bel_then (by repeat (first | assumption | exact Below.refl _ _ | apply bel_alloc | apply bel_drew | apply bel_drewN | (refine bel_set ?_ (by first | assumption | omega | (simp; done) | (simp; omega)) _))) hw1; have HB1 := Lib.hid hv1; clear hw1 hv1)))
          | (go_at_call 17; go_must ((refine (law_quick s B2 B3 m2 m3 d2 d3 _ F2.out F3.out).mono ?_; rintro e w2 ⟨rfl, hw2⟩; have CS := HCS.out.below hw2; have CR := HCR.out.below hw2; clear s0 s1 s2 s3; have s0 := CS.cell 0; have s1 := CS.cell 1; have s2 := CS.cell 2; have s3 := CS.cell 3; have r0 := CR.cell 0; have r1 := CR.cell 1; have r2 := CR.cell 2; have HCS := Lib.hid CS; have HCR := Lib.hid CR; clear CS CR; have HB2 := Lib.hid (bel_then HB1.out hw2); clear hw2)))
          | (go_at_call 19; go_must ((refine (pace_Between_no s r A0 A1 A2 B2 B3 n0 n1 n2 m2 m3 c0 c1 c2 d2 d3 a b _ (H0.out.below HB2.out) (H1.out.below HB2.out) (H2.out.below HB2.out) (G2.out.below HB2.out) (G3.out.below HB2.out) HNO.out).mono ?_; rintro e w3 ⟨rfl, hw3⟩; have CS := HCS.out.below hw3; have CR := HCR.out.below hw3; (try clear s0 s1 s2 s3); (try clear r0 r1 r2); have s0 := CS.cell 0; have s1 := CS.cell 1; have s2 := CS.cell 2; have s3 := CS.cell 3; have r0 := CR.cell 0; have r1 := CR.cell 1; have r2 := CR.cell 2; have HCS := Lib.hid CS; have HCR := Lib.hid CR; clear CS CR; have HB3 := Lib.hid (bel_then HB2.out hw3); clear hw3))))
        have k0 := cell_regrown (show w3.cell? ⟨w.heap.size + 1, 0, none⟩ = some (.int .i64 s.least) from HCS.out.cell 0); have k1 := cell_regrown (show w3.cell? ⟨w.heap.size + 1, 1, none⟩ = some (.int .i64 s.most) from HCS.out.cell 1); have k2 := cell_regrown (show w3.cell? ⟨w.heap.size + 1, 2, none⟩ = some (.slice B2 m2 d2) from HCS.out.cell 2); have k3 := cell_regrown (show w3.cell? ⟨w.heap.size + 1, 3, none⟩ = some (.slice B3 m3 d3) from HCS.out.cell 3)
        refine wp_region_quiet_below (by kernel_rfl) (by kernel_rfl) ?_; (repeat (go_big_quiet_step ((first | (go_at_call 20; exact Calls.regrown_of (pace_Check s B2 B3 m2 m3 d2 d3 _ ((G2.out.below HB3.out).below (below_regrown w3 _ _)) ((G3.out.below HB3.out).below (below_regrown w3 _ _)))) | (go_at_call 21; exact Calls.regrown_of (ref3_Speeds s B2 B3 m2 m3 d2 d3 _ ((G2.out.below HB3.out).below (below_regrown w3 _ _)) ((G3.out.below HB3.out).below (below_regrown w3 _ _)))))))); refine wpQuiet_nil ?_; intro _ hw'; obtain ⟨⟨dq, osq⟩, hw''⟩ := hw'; subst hw''
        clear k0 k1 k2 k3
        obtain ⟨w4, hw4⟩ : ∃ w4, Sort.grow (redrawn w3 dq) osq = w4 := ⟨_, rfl⟩
        have hv4 : Below w3.heap.size w3 w4 := by rw [← hw4]; exact below_regrown w3 _ _
        have HB4 := Lib.hid (bel_then HB3.out hv4)
        have CS := HCS.out.below hv4; have CR := HCR.out.below hv4; (try clear s0 s1 s2 s3); (try clear r0 r1 r2); have s0 := CS.cell 0; have s1 := CS.cell 1; have s2 := CS.cell 2; have s3 := CS.cell 3; have r0 := CR.cell 0; have r1 := CR.cell 1; have r2 := CR.cell 2; have HCS := Lib.hid CS; have HCR := Lib.hid CR; clear CS CR
        rw [hw4]
        clear hw4 hv4
        go_wp2_with (first
          | (go_at_call 22; go_must ((refine (law_fine s r A0 A1 A2 B2 B3 n0 n1 n2 m2 m3 c0 c1 c2 d2 d3 _ (H0.out.below HB4.out) (H1.out.below HB4.out) (H2.out.below HB4.out) (G2.out.below HB4.out) (G3.out.below HB4.out)).mono ?_; rintro e w5 ⟨rfl, hw5⟩; have CS := HCS.out.below hw5; have CR := HCR.out.below hw5; (try clear s0 s1 s2 s3); (try clear r0 r1 r2); have s0 := CS.cell 0; have s1 := CS.cell 1; have s2 := CS.cell 2; have s3 := CS.cell 3; have r0 := CR.cell 0; have r1 := CR.cell 1; have r2 := CR.cell 2; have HCS := Lib.hid CS; have HCR := Lib.hid CR; clear CS CR; have HB5 := Lib.hid (bel_then HB4.out hw5); clear hw5)))
          | (go_at_call 23; go_must ((refine (ref3_Length r A0 A1 A2 n0 n1 n2 c0 c1 c2 _ (H0.out.below HB5.out) HRV.out.fit).mono ?_; rintro e w6 ⟨rfl, hw6⟩; have CS := HCS.out.below hw6; have CR := HCR.out.below hw6; (try clear s0 s1 s2 s3); (try clear r0 r1 r2); have s0 := CS.cell 0; have s1 := CS.cell 1; have s2 := CS.cell 2; have s3 := CS.cell 3; have r0 := CR.cell 0; have r1 := CR.cell 1; have r2 := CR.cell 2; have HCS := Lib.hid CS; have HCR := Lib.hid CR; clear CS CR; have HB6 := Lib.hid (bel_then HB5.out hw6); clear hw6)))
          | (go_at_call 18; go_must (((first | refine (known_ _ (HT.out.below HB6.out)).mono ?_ | refine (known_ _ (HT.out.below HB5.out)).mono ?_); rintro e w8 ⟨rfl, hw8⟩))))
        go_ret
        first | exact ⟨rfl, bel_then HB6.out hw8⟩ | exact ⟨rfl, bel_then HB5.out hw8⟩
    · have hck : s.chk = 2 := Speeds.chk_no hs
      have hsb : bo s.Valid = false := bo_false hs
      have hfi : bo (Fine r s) = false := bo_false fun h => hs h.2
      clear hok hs
      go_enter Tryd.func3, Tryd.ntmps3
      go_wp2_with (first
        | (go_at_call 16; go_must ((refine (law_few r A0 A1 A2 n0 n1 n2 c0 c1 c2 _ (H0.out.below (by repeat (first | assumption | exact Below.refl _ _ | apply bel_alloc | apply bel_drew | apply bel_drewN | (refine bel_set ?_ (by first | assumption | omega | (simp; done) | (simp; omega)) _)))) E1.out E2.out).mono ?_; rintro e w1 ⟨rfl, hw1⟩; have CS : Blk w1 (w.heap.size + 1) 30 #[.int .i64 s.least, .int .i64 s.most, .slice B2 m2 d2, .slice B3 m3 d3] := (Blk.new_at _ _ _ _ (by simp)).below hw1; have CR : Blk w1 w.heap.size 26 #[.slice A0 n0 c0, .slice A1 n1 c1, .slice A2 n2 c2] := ((Blk.new _ _ _).alloc _).below hw1; have s0 := CS.cell 0; have s1 := CS.cell 1; have s2 := CS.cell 2; have s3 := CS.cell 3; have HCS := Lib.hid CS; have HCR := Lib.hid CR; clear CS CR; have hv1 : Below w.heap.size w w1 := bel_then (by repeat (first | assumption | exact Below.refl _ _ | apply bel_alloc | apply bel_drew | apply bel_drewN | (refine bel_set ?_ (by first | assumption | omega | (simp; done) | (simp; omega)) _))) hw1; have HB1 := Lib.hid hv1; clear hw1 hv1)))
        | (go_at_call 17; go_must ((refine (law_quick s B2 B3 m2 m3 d2 d3 _ F2.out F3.out).mono ?_; rintro e w2 ⟨rfl, hw2⟩; have CS := HCS.out.below hw2; have CR := HCR.out.below hw2; clear s0 s1 s2 s3; have s0 := CS.cell 0; have s1 := CS.cell 1; have s2 := CS.cell 2; have s3 := CS.cell 3; have r0 := CR.cell 0; have r1 := CR.cell 1; have r2 := CR.cell 2; have HCS := Lib.hid CS; have HCR := Lib.hid CR; clear CS CR; have HB2 := Lib.hid (bel_then HB1.out hw2); clear hw2)))
        | (go_at_call 19; go_must ((refine (pace_Between_no s r A0 A1 A2 B2 B3 n0 n1 n2 m2 m3 c0 c1 c2 d2 d3 a b _ (H0.out.below HB2.out) (H1.out.below HB2.out) (H2.out.below HB2.out) (G2.out.below HB2.out) (G3.out.below HB2.out) HNO.out).mono ?_; rintro e w3 ⟨rfl, hw3⟩; have CS := HCS.out.below hw3; have CR := HCR.out.below hw3; (try clear s0 s1 s2 s3); (try clear r0 r1 r2); have s0 := CS.cell 0; have s1 := CS.cell 1; have s2 := CS.cell 2; have s3 := CS.cell 3; have r0 := CR.cell 0; have r1 := CR.cell 1; have r2 := CR.cell 2; have HCS := Lib.hid CS; have HCR := Lib.hid CR; clear CS CR; have HB3 := Lib.hid (bel_then HB2.out hw3); clear hw3))))
      have k0 := cell_regrown (show w3.cell? ⟨w.heap.size + 1, 0, none⟩ = some (.int .i64 s.least) from HCS.out.cell 0); have k1 := cell_regrown (show w3.cell? ⟨w.heap.size + 1, 1, none⟩ = some (.int .i64 s.most) from HCS.out.cell 1); have k2 := cell_regrown (show w3.cell? ⟨w.heap.size + 1, 2, none⟩ = some (.slice B2 m2 d2) from HCS.out.cell 2); have k3 := cell_regrown (show w3.cell? ⟨w.heap.size + 1, 3, none⟩ = some (.slice B3 m3 d3) from HCS.out.cell 3)
      refine wp_region_quiet_below (by kernel_rfl) (by kernel_rfl) ?_; (repeat (go_big_quiet_step ((first | (go_at_call 20; exact Calls.regrown_of (pace_Check s B2 B3 m2 m3 d2 d3 _ ((G2.out.below HB3.out).below (below_regrown w3 _ _)) ((G3.out.below HB3.out).below (below_regrown w3 _ _)))) | (go_at_call 21; exact Calls.regrown_of (ref3_Speeds s B2 B3 m2 m3 d2 d3 _ ((G2.out.below HB3.out).below (below_regrown w3 _ _)) ((G3.out.below HB3.out).below (below_regrown w3 _ _)))))))); refine wpQuiet_nil ?_; intro _ hw'; obtain ⟨⟨dq, osq⟩, hw''⟩ := hw'; subst hw''
      clear k0 k1 k2 k3
      obtain ⟨w4, hw4⟩ : ∃ w4, Sort.grow (redrawn w3 dq) osq = w4 := ⟨_, rfl⟩
      have hv4 : Below w3.heap.size w3 w4 := by rw [← hw4]; exact below_regrown w3 _ _
      have HB4 := Lib.hid (bel_then HB3.out hv4)
      have CS := HCS.out.below hv4; have CR := HCR.out.below hv4; (try clear s0 s1 s2 s3); (try clear r0 r1 r2); have s0 := CS.cell 0; have s1 := CS.cell 1; have s2 := CS.cell 2; have s3 := CS.cell 3; have r0 := CR.cell 0; have r1 := CR.cell 1; have r2 := CR.cell 2; have HCS := Lib.hid CS; have HCR := Lib.hid CR; clear CS CR
      rw [hw4]
      clear hw4 hv4
      go_wp2_with (first
        | (go_at_call 22; go_must ((refine (law_fine s r A0 A1 A2 B2 B3 n0 n1 n2 m2 m3 c0 c1 c2 d2 d3 _ (H0.out.below HB4.out) (H1.out.below HB4.out) (H2.out.below HB4.out) (G2.out.below HB4.out) (G3.out.below HB4.out)).mono ?_; rintro e w5 ⟨rfl, hw5⟩; have CS := HCS.out.below hw5; have CR := HCR.out.below hw5; (try clear s0 s1 s2 s3); (try clear r0 r1 r2); have s0 := CS.cell 0; have s1 := CS.cell 1; have s2 := CS.cell 2; have s3 := CS.cell 3; have r0 := CR.cell 0; have r1 := CR.cell 1; have r2 := CR.cell 2; have HCS := Lib.hid CS; have HCR := Lib.hid CR; clear CS CR; have HB5 := Lib.hid (bel_then HB4.out hw5); clear hw5)))
        | (go_at_call 23; go_must ((refine (ref3_Length r A0 A1 A2 n0 n1 n2 c0 c1 c2 _ (H0.out.below HB5.out) HRV.out.fit).mono ?_; rintro e w6 ⟨rfl, hw6⟩; have CS := HCS.out.below hw6; have CR := HCR.out.below hw6; (try clear s0 s1 s2 s3); (try clear r0 r1 r2); have s0 := CS.cell 0; have s1 := CS.cell 1; have s2 := CS.cell 2; have s3 := CS.cell 3; have r0 := CR.cell 0; have r1 := CR.cell 1; have r2 := CR.cell 2; have HCS := Lib.hid CS; have HCR := Lib.hid CR; clear CS CR; have HB6 := Lib.hid (bel_then HB5.out hw6); clear hw6)))
        | (go_at_call 18; go_must (((first | refine (known_ _ (HT.out.below HB6.out)).mono ?_ | refine (known_ _ (HT.out.below HB5.out)).mono ?_); rintro e w8 ⟨rfl, hw8⟩))))
      go_ret
      first | exact ⟨rfl, bel_then HB6.out hw8⟩ | exact ⟨rfl, bel_then HB5.out hw8⟩
end Go.Proofs.YtinglbcafcjhfaaDoor
