/- The walk of the law PaceFits. -/
import Derived.Test.YtinglbcafcjhfaaDoorLawB
import Derived.Test.YtinglbcafcjhfaaDoorFitD
import Derived.Lib.QuietBelow
namespace Go.Proofs.YtinglbcafcjhfaaDoor
open Go.RowKit
set_option linter.unusedVariables false
set_option linter.unusedSimpArgs false

set_option maxRecDepth 100000 in
set_option maxHeartbeats 2000000 in
theorem law_PaceFits (s : Speeds) (r : Road) (l : List Passing) (ts : List Int) (A0 A1 A2 B2 B3 : Option Addr) (n0 n1 n2 m2 m3 c0 c1 c2 d2 d3 : Nat) (C D : Option Addr) (n c m d : Nat) (w : World) (h0 : Rd 5 Piece.enc w A0 n0 r.pieces) (h1 : Rd 2 Crest.enc w A1 n1 r.crests) (h2 : Rd 3 Junction.enc w A2 n2 r.juncs) (g2 : Rd 3 SpeedRow.enc w B2 m2 s.rows) (g3 : Rd 1 intEnc w B3 m3 s.surface) (hc : Rd 3 Passing.enc w C n l) (hd : Rd 1 intEnc w D m ts) (hw : I64s ts) (ht : Tab w) :
    Calls Tryd.prog 6 #[.agg #[.slice A0 n0 c0, .slice A1 n1 c1, .slice A2 n2 c2], .agg #[.int .i64 s.least, .int .i64 s.most, .slice B2 m2 d2, .slice B3 m3 d3], .slice C n c, .slice D m d] w (LawPost w) := by
  have hnl : n = l.length := hc.1.symm
  subst hnl
  have e1 := h1.1
  have e2 := h2.1
  have f2 := g2.1
  have f3 := g3.1
  have E1 := Lib.hid e1
  have E2 := Lib.hid e2
  have F2 := Lib.hid f2
  have F3 := Lib.hid f3
  have HT := Lib.hid ht
  have HC := Lib.hid hc
  have HD := Lib.hid hd
  have HW := Lib.hid hw
  have hml : m = ts.length := hd.1.symm
  subst hml
  have mc1 := hc.2.1
  have md1 := hd.2.1
  clear e1 e2 f2 f3 ht hc hd hw
  have H0 := Lib.hid h0; have H1 := Lib.hid h1; have H2 := Lib.hid h2; have G2 := Lib.hid g2; have G3 := Lib.hid g3; clear h0 h1 h2 g2 g3
  by_cases hfew : Few r
  rotate_left
  · have hb1 := bo_false hfew
    clear hfew
    go_enter Tryd.func6, Tryd.ntmps6
    go_wp2_with (first
      | (go_at_call 16; go_must ((refine (law_few r A0 A1 A2 n0 n1 n2 c0 c1 c2 _ (H0.out.below (by repeat (first | assumption | exact Below.refl _ _ | apply bel_alloc | apply bel_drew | apply bel_drewN | (refine bel_set ?_ (by first | assumption | omega | (simp; done) | (simp; omega)) _)))) E1.out E2.out).mono ?_; rintro e w1 ⟨rfl, hw1⟩; have CS : Blk w1 (w.heap.size + 1) 30 #[.int .i64 s.least, .int .i64 s.most, .slice B2 m2 d2, .slice B3 m3 d3] := (Blk.new_at _ _ _ _ (by simp)).below hw1; have CR : Blk w1 w.heap.size 26 #[.slice A0 n0 c0, .slice A1 n1 c1, .slice A2 n2 c2] := ((Blk.new _ _ _).alloc _).below hw1; have s0 := CS.cell 0; have s1 := CS.cell 1; have s2 := CS.cell 2; have s3 := CS.cell 3; have HCS := Lib.hid CS; have HCR := Lib.hid CR; clear CS CR; have hv1 : Below w.heap.size w w1 := bel_then (by repeat (first | assumption | exact Below.refl _ _ | apply bel_alloc | apply bel_drew | apply bel_drewN | (refine bel_set ?_ (by first | assumption | omega | (simp; done) | (simp; omega)) _))) hw1; have HB1 := Lib.hid hv1; clear hw1 hv1)))
      | (go_at_call 18; go_must ((refine (known_ _ (HT.out.below HB1.out)).mono ?_; rintro e w2 ⟨rfl, hw2⟩))))
    go_ret
    exact ⟨rfl, bel_then HB1.out hw2⟩
  have hb1 := bo_true hfew
  have HFEW := Lib.hid hfew
  clear hfew
  by_cases hquick : Quick s
  rotate_left
  · have hb2 := bo_false hquick
    clear hquick
    go_enter Tryd.func6, Tryd.ntmps6
    go_wp2_with (first
      | (go_at_call 16; go_must ((refine (law_few r A0 A1 A2 n0 n1 n2 c0 c1 c2 _ (H0.out.below (by repeat (first | assumption | exact Below.refl _ _ | apply bel_alloc | apply bel_drew | apply bel_drewN | (refine bel_set ?_ (by first | assumption | omega | (simp; done) | (simp; omega)) _)))) E1.out E2.out).mono ?_; rintro e w1 ⟨rfl, hw1⟩; have CS : Blk w1 (w.heap.size + 1) 30 #[.int .i64 s.least, .int .i64 s.most, .slice B2 m2 d2, .slice B3 m3 d3] := (Blk.new_at _ _ _ _ (by simp)).below hw1; have CR : Blk w1 w.heap.size 26 #[.slice A0 n0 c0, .slice A1 n1 c1, .slice A2 n2 c2] := ((Blk.new _ _ _).alloc _).below hw1; have s0 := CS.cell 0; have s1 := CS.cell 1; have s2 := CS.cell 2; have s3 := CS.cell 3; have HCS := Lib.hid CS; have HCR := Lib.hid CR; clear CS CR; have hv1 : Below w.heap.size w w1 := bel_then (by repeat (first | assumption | exact Below.refl _ _ | apply bel_alloc | apply bel_drew | apply bel_drewN | (refine bel_set ?_ (by first | assumption | omega | (simp; done) | (simp; omega)) _))) hw1; have HB1 := Lib.hid hv1; clear hw1 hv1)))
      | (go_at_call 17; go_must ((refine (law_quick s B2 B3 m2 m3 d2 d3 _ F2.out F3.out).mono ?_; rintro e w2 ⟨rfl, hw2⟩; have CS := HCS.out.below hw2; have CR := HCR.out.below hw2; clear s0 s1 s2 s3; have s0 := CS.cell 0; have s1 := CS.cell 1; have s2 := CS.cell 2; have s3 := CS.cell 3; have r0 := CR.cell 0; have r1 := CR.cell 1; have r2 := CR.cell 2; have HCS := Lib.hid CS; have HCR := Lib.hid CR; clear CS CR; have HB2 := Lib.hid (bel_then HB1.out hw2); clear hw2)))
      | (go_at_call 18; go_must ((refine (known_ _ (HT.out.below HB2.out)).mono ?_; rintro e w3 ⟨rfl, hw3⟩))))
    go_ret
    exact ⟨rfl, bel_then HB2.out hw3⟩
  have hb2 := bo_true hquick
  have HQ := Lib.hid hquick
  clear hquick
  have hsm : decide (220 < (l.length : Int)) = true ∨ decide (220 < (l.length : Int)) = false ∧ decide (200 < (ts.length : Int)) = true ∨ decide (220 < (l.length : Int)) = false ∧ decide (200 < (ts.length : Int)) = false := by
    simp only [decide_eq_true_eq, decide_eq_false_iff_not]
    omega
  rcases hsm with hb3 | ⟨hb3, hb4⟩ | ⟨hb3, hb4⟩
  · go_enter Tryd.func6, Tryd.ntmps6
    go_wp2_with (first
      | (go_at_call 16; go_must ((refine (law_few r A0 A1 A2 n0 n1 n2 c0 c1 c2 _ (H0.out.below (by repeat (first | assumption | exact Below.refl _ _ | apply bel_alloc | apply bel_drew | apply bel_drewN | (refine bel_set ?_ (by first | assumption | omega | (simp; done) | (simp; omega)) _)))) E1.out E2.out).mono ?_; rintro e w1 ⟨rfl, hw1⟩; have CS : Blk w1 (w.heap.size + 1) 30 #[.int .i64 s.least, .int .i64 s.most, .slice B2 m2 d2, .slice B3 m3 d3] := (Blk.new_at _ _ _ _ (by simp)).below hw1; have CR : Blk w1 w.heap.size 26 #[.slice A0 n0 c0, .slice A1 n1 c1, .slice A2 n2 c2] := ((Blk.new _ _ _).alloc _).below hw1; have s0 := CS.cell 0; have s1 := CS.cell 1; have s2 := CS.cell 2; have s3 := CS.cell 3; have HCS := Lib.hid CS; have HCR := Lib.hid CR; clear CS CR; have hv1 : Below w.heap.size w w1 := bel_then (by repeat (first | assumption | exact Below.refl _ _ | apply bel_alloc | apply bel_drew | apply bel_drewN | (refine bel_set ?_ (by first | assumption | omega | (simp; done) | (simp; omega)) _))) hw1; have HB1 := Lib.hid hv1; clear hw1 hv1)))
      | (go_at_call 17; go_must ((refine (law_quick s B2 B3 m2 m3 d2 d3 _ F2.out F3.out).mono ?_; rintro e w2 ⟨rfl, hw2⟩; have CS := HCS.out.below hw2; have CR := HCR.out.below hw2; clear s0 s1 s2 s3; have s0 := CS.cell 0; have s1 := CS.cell 1; have s2 := CS.cell 2; have s3 := CS.cell 3; have r0 := CR.cell 0; have r1 := CR.cell 1; have r2 := CR.cell 2; have HCS := Lib.hid CS; have HCR := Lib.hid CR; clear CS CR; have HB2 := Lib.hid (bel_then HB1.out hw2); clear hw2)))
      | (go_at_call 18; go_must ((refine (known_ _ (HT.out.below HB2.out)).mono ?_; rintro e w3 ⟨rfl, hw3⟩))))
    go_ret
    exact ⟨rfl, bel_then HB2.out hw3⟩
  · go_enter Tryd.func6, Tryd.ntmps6
    go_wp2_with (first
      | (go_at_call 16; go_must ((refine (law_few r A0 A1 A2 n0 n1 n2 c0 c1 c2 _ (H0.out.below (by repeat (first | assumption | exact Below.refl _ _ | apply bel_alloc | apply bel_drew | apply bel_drewN | (refine bel_set ?_ (by first | assumption | omega | (simp; done) | (simp; omega)) _)))) E1.out E2.out).mono ?_; rintro e w1 ⟨rfl, hw1⟩; have CS : Blk w1 (w.heap.size + 1) 30 #[.int .i64 s.least, .int .i64 s.most, .slice B2 m2 d2, .slice B3 m3 d3] := (Blk.new_at _ _ _ _ (by simp)).below hw1; have CR : Blk w1 w.heap.size 26 #[.slice A0 n0 c0, .slice A1 n1 c1, .slice A2 n2 c2] := ((Blk.new _ _ _).alloc _).below hw1; have s0 := CS.cell 0; have s1 := CS.cell 1; have s2 := CS.cell 2; have s3 := CS.cell 3; have HCS := Lib.hid CS; have HCR := Lib.hid CR; clear CS CR; have hv1 : Below w.heap.size w w1 := bel_then (by repeat (first | assumption | exact Below.refl _ _ | apply bel_alloc | apply bel_drew | apply bel_drewN | (refine bel_set ?_ (by first | assumption | omega | (simp; done) | (simp; omega)) _))) hw1; have HB1 := Lib.hid hv1; clear hw1 hv1)))
      | (go_at_call 17; go_must ((refine (law_quick s B2 B3 m2 m3 d2 d3 _ F2.out F3.out).mono ?_; rintro e w2 ⟨rfl, hw2⟩; have CS := HCS.out.below hw2; have CR := HCR.out.below hw2; clear s0 s1 s2 s3; have s0 := CS.cell 0; have s1 := CS.cell 1; have s2 := CS.cell 2; have s3 := CS.cell 3; have r0 := CR.cell 0; have r1 := CR.cell 1; have r2 := CR.cell 2; have HCS := Lib.hid CS; have HCR := Lib.hid CR; clear CS CR; have HB2 := Lib.hid (bel_then HB1.out hw2); clear hw2)))
      | (go_at_call 18; go_must ((refine (known_ _ (HT.out.below HB2.out)).mono ?_; rintro e w3 ⟨rfl, hw3⟩))))
    go_ret
    exact ⟨rfl, bel_then HB2.out hw3⟩
  by_cases hok : r.Valid ∧ s.Valid ∧ PassOk r.length l ∧ (ts.length : Int) = r.length + 1
  · have hfi : bo (Fine r s) = true := bo_true ⟨hok.1, hok.2.1⟩
    have hco : bo (PassOk r.length l) = true := bo_true hok.2.2.1
    have hr0 : 0 ≤ r.length := (hok.1.fit.2 _ (Nat.le_refl _)).1
    have hsh := hok.1.short
    have hwr : IntKind.i64.wrap (r.length + 1) = r.length + 1 := IntWalk.i64_in _ (by omega)
    have hto : ((ts.length : Int) != r.length + 1) = false := by simp only [bne_eq_false_iff_eq]; exact hok.2.2.2
    have HOK := Lib.hid hok
    obtain ⟨V, hV⟩ : ∃ V, bo (FitsRun (sumsOf s r) l ts) = V := ⟨_, rfl⟩
    have HV := Lib.hid hV
    clear hok hV
    go_enter Tryd.func6, Tryd.ntmps6
    go_wp2_with (first
      | (go_at_call 16; go_must ((refine (law_few r A0 A1 A2 n0 n1 n2 c0 c1 c2 _ (H0.out.below (by repeat (first | assumption | exact Below.refl _ _ | apply bel_alloc | apply bel_drew | apply bel_drewN | (refine bel_set ?_ (by first | assumption | omega | (simp; done) | (simp; omega)) _)))) E1.out E2.out).mono ?_; rintro e w1 ⟨rfl, hw1⟩; have CS : Blk w1 (w.heap.size + 1) 30 #[.int .i64 s.least, .int .i64 s.most, .slice B2 m2 d2, .slice B3 m3 d3] := (Blk.new_at _ _ _ _ (by simp)).below hw1; have CR : Blk w1 w.heap.size 26 #[.slice A0 n0 c0, .slice A1 n1 c1, .slice A2 n2 c2] := ((Blk.new _ _ _).alloc _).below hw1; have s0 := CS.cell 0; have s1 := CS.cell 1; have s2 := CS.cell 2; have s3 := CS.cell 3; have HCS := Lib.hid CS; have HCR := Lib.hid CR; clear CS CR; have hv1 : Below w.heap.size w w1 := bel_then (by repeat (first | assumption | exact Below.refl _ _ | apply bel_alloc | apply bel_drew | apply bel_drewN | (refine bel_set ?_ (by first | assumption | omega | (simp; done) | (simp; omega)) _))) hw1; have HB1 := Lib.hid hv1; clear hw1 hv1)))
      | (go_at_call 17; go_must ((refine (law_quick s B2 B3 m2 m3 d2 d3 _ F2.out F3.out).mono ?_; rintro e w2 ⟨rfl, hw2⟩; have CS := HCS.out.below hw2; have CR := HCR.out.below hw2; clear s0 s1 s2 s3; have s0 := CS.cell 0; have s1 := CS.cell 1; have s2 := CS.cell 2; have s3 := CS.cell 3; have r0 := CR.cell 0; have r1 := CR.cell 1; have r2 := CR.cell 2; have HCS := Lib.hid CS; have HCR := Lib.hid CR; clear CS CR; have HB2 := Lib.hid (bel_then HB1.out hw2); clear hw2)))
      | (go_at_call 35; go_must ((refine (pace_Fits_yes s r l ts A0 A1 A2 B2 B3 C D n0 n1 n2 m2 m3 c0 c1 c2 d2 d3 l.length c _ d _ (H0.out.below HB2.out) (H1.out.below HB2.out) (H2.out.below HB2.out) (G2.out.below HB2.out) (G3.out.below HB2.out) (HC.out.below HB2.out) (HD.out.below HB2.out) HOK.out.1 HOK.out.2.1 HOK.out.2.2.1 HOK.out.2.2.2 HW.out).mono ?_; rw [HV.out]; rintro e w3 ⟨rfl, hw3⟩; have CS := HCS.out.below hw3; have CR := HCR.out.below hw3; (try clear s0 s1 s2 s3); (try clear r0 r1 r2); have s0 := CS.cell 0; have s1 := CS.cell 1; have s2 := CS.cell 2; have s3 := CS.cell 3; have r0 := CR.cell 0; have r1 := CR.cell 1; have r2 := CR.cell 2; have HCS := Lib.hid CS; have HCR := Lib.hid CR; clear CS CR; have HB3 := Lib.hid (bel_then HB2.out hw3); clear hw3)))
      | (go_at_call 22; go_must ((refine (law_fine s r A0 A1 A2 B2 B3 n0 n1 n2 m2 m3 c0 c1 c2 d2 d3 _ (H0.out.below HB3.out) (H1.out.below HB3.out) (H2.out.below HB3.out) (G2.out.below HB3.out) (G3.out.below HB3.out)).mono ?_; rintro e w5 ⟨rfl, hw5⟩; have CS := HCS.out.below hw5; have CR := HCR.out.below hw5; (try clear s0 s1 s2 s3); (try clear r0 r1 r2); have s0 := CS.cell 0; have s1 := CS.cell 1; have s2 := CS.cell 2; have s3 := CS.cell 3; have r0 := CR.cell 0; have r1 := CR.cell 1; have r2 := CR.cell 2; have HCS := Lib.hid CS; have HCR := Lib.hid CR; clear CS CR; have HB5 := Lib.hid (bel_then HB3.out hw5); clear hw5)))
      | (go_at_call 36; go_must ((refine (ref3_Passings r l A0 A1 A2 C n0 n1 n2 c0 c1 c2 l.length c _ (H0.out.below HB5.out) (HC.out.below HB5.out) HOK.out.1.fit).mono ?_; rintro e w6 ⟨rfl, hw6⟩; have CS := HCS.out.below hw6; have CR := HCR.out.below hw6; (try clear s0 s1 s2 s3); (try clear r0 r1 r2); have s0 := CS.cell 0; have s1 := CS.cell 1; have s2 := CS.cell 2; have s3 := CS.cell 3; have r0 := CR.cell 0; have r1 := CR.cell 1; have r2 := CR.cell 2; have HCS := Lib.hid CS; have HCR := Lib.hid CR; clear CS CR; have HB6 := Lib.hid (bel_then HB5.out hw6); clear hw6)))
      | (go_at_call 23; go_must ((refine (ref3_Length r A0 A1 A2 n0 n1 n2 c0 c1 c2 _ (H0.out.below HB6.out) HOK.out.1.fit).mono ?_; rintro e w7 ⟨rfl, hw7⟩; have CS := HCS.out.below hw7; have CR := HCR.out.below hw7; (try clear s0 s1 s2 s3); (try clear r0 r1 r2); have s0 := CS.cell 0; have s1 := CS.cell 1; have s2 := CS.cell 2; have s3 := CS.cell 3; have r0 := CR.cell 0; have r1 := CR.cell 1; have r2 := CR.cell 2; have HCS := Lib.hid CS; have HCR := Lib.hid CR; clear CS CR; have HB7 := Lib.hid (bel_then HB6.out hw7); clear hw7)))
      | (go_at_call 37; go_must ((refine (ref3_Fits s r l ts A0 A1 A2 B2 B3 C D n0 n1 n2 m2 m3 c0 c1 c2 d2 d3 l.length c _ d _ (H0.out.below HB7.out) (G2.out.below HB7.out) (G3.out.below HB7.out) (HC.out.below HB7.out) (HD.out.below HB7.out) HOK.out.1 HOK.out.2.1 HOK.out.2.2.1 HOK.out.2.2.2 HW.out).mono ?_; rw [HV.out]; rintro e w8 ⟨rfl, hw8⟩; have HB8 := Lib.hid (bel_then HB7.out hw8); clear hw8)))
      | (go_at_call 18; go_must ((refine (known_ _ (HT.out.below HB8.out)).mono ?_; rintro e w9 ⟨rfl, hw9⟩))))
    go_ret
    exact ⟨rfl, bel_then HB8.out hw9⟩
  · have HNO := Lib.hid hok
    have hcases : bo (Fine r s) = false ∨ bo (Fine r s) = true ∧ bo (PassOk r.length l) = false ∨ bo (Fine r s) = true ∧ bo (PassOk r.length l) = true ∧ IntKind.i64.wrap (r.length + 1) = r.length + 1 ∧ ((ts.length : Int) != r.length + 1) = true := by
      by_cases hf : Fine r s
      · by_cases hc : PassOk r.length l
        · have hr0 : 0 ≤ r.length := (hf.1.fit.2 _ (Nat.le_refl _)).1
          have hsh := hf.1.short
          exact .inr (.inr ⟨bo_true hf, bo_true hc, IntWalk.i64_in _ (by omega), by simp only [bne_iff_ne, ne_eq]; exact fun h => hok ⟨hf.1, hf.2, hc, h⟩⟩)
        · exact .inr (.inl ⟨bo_true hf, bo_false hc⟩)
      · exact .inl (bo_false hf)
    clear hok
    rcases hcases with hfi | ⟨hfi, hco⟩ | ⟨hfi, hco, hwr, hto⟩
    all_goals
      go_enter Tryd.func6, Tryd.ntmps6
      go_wp2_with (first
        | (go_at_call 16; go_must ((refine (law_few r A0 A1 A2 n0 n1 n2 c0 c1 c2 _ (H0.out.below (by repeat (first | assumption | exact Below.refl _ _ | apply bel_alloc | apply bel_drew | apply bel_drewN | (refine bel_set ?_ (by first | assumption | omega | (simp; done) | (simp; omega)) _)))) E1.out E2.out).mono ?_; rintro e w1 ⟨rfl, hw1⟩; have CS : Blk w1 (w.heap.size + 1) 30 #[.int .i64 s.least, .int .i64 s.most, .slice B2 m2 d2, .slice B3 m3 d3] := (Blk.new_at _ _ _ _ (by simp)).below hw1; have CR : Blk w1 w.heap.size 26 #[.slice A0 n0 c0, .slice A1 n1 c1, .slice A2 n2 c2] := ((Blk.new _ _ _).alloc _).below hw1; have s0 := CS.cell 0; have s1 := CS.cell 1; have s2 := CS.cell 2; have s3 := CS.cell 3; have HCS := Lib.hid CS; have HCR := Lib.hid CR; clear CS CR; have hv1 : Below w.heap.size w w1 := bel_then (by repeat (first | assumption | exact Below.refl _ _ | apply bel_alloc | apply bel_drew | apply bel_drewN | (refine bel_set ?_ (by first | assumption | omega | (simp; done) | (simp; omega)) _))) hw1; have HB1 := Lib.hid hv1; clear hw1 hv1)))
        | (go_at_call 17; go_must ((refine (law_quick s B2 B3 m2 m3 d2 d3 _ F2.out F3.out).mono ?_; rintro e w2 ⟨rfl, hw2⟩; have CS := HCS.out.below hw2; have CR := HCR.out.below hw2; clear s0 s1 s2 s3; have s0 := CS.cell 0; have s1 := CS.cell 1; have s2 := CS.cell 2; have s3 := CS.cell 3; have r0 := CR.cell 0; have r1 := CR.cell 1; have r2 := CR.cell 2; have HCS := Lib.hid CS; have HCR := Lib.hid CR; clear CS CR; have HB2 := Lib.hid (bel_then HB1.out hw2); clear hw2)))
        | (go_at_call 35; go_must ((refine (pace_Fits_no s r l ts A0 A1 A2 B2 B3 C D n0 n1 n2 m2 m3 c0 c1 c2 d2 d3 l.length c _ d _ (H0.out.below HB2.out) (H1.out.below HB2.out) (H2.out.below HB2.out) (G2.out.below HB2.out) (G3.out.below HB2.out) (HC.out.below HB2.out) (HD.out.below HB2.out) HNO.out).mono ?_; rintro e w3 ⟨rfl, hw3⟩; have CS := HCS.out.below hw3; have CR := HCR.out.below hw3; (try clear s0 s1 s2 s3); (try clear r0 r1 r2); have s0 := CS.cell 0; have s1 := CS.cell 1; have s2 := CS.cell 2; have s3 := CS.cell 3; have r0 := CR.cell 0; have r1 := CR.cell 1; have r2 := CR.cell 2; have HCS := Lib.hid CS; have HCR := Lib.hid CR; clear CS CR; have HB3 := Lib.hid (bel_then HB2.out hw3); clear hw3)))
        | (go_at_call 22; go_must ((refine (law_fine s r A0 A1 A2 B2 B3 n0 n1 n2 m2 m3 c0 c1 c2 d2 d3 _ (H0.out.below HB3.out) (H1.out.below HB3.out) (H2.out.below HB3.out) (G2.out.below HB3.out) (G3.out.below HB3.out)).mono ?_; rintro e w5 ⟨rfl, hw5⟩; have CS := HCS.out.below hw5; have CR := HCR.out.below hw5; (try clear s0 s1 s2 s3); (try clear r0 r1 r2); have s0 := CS.cell 0; have s1 := CS.cell 1; have s2 := CS.cell 2; have s3 := CS.cell 3; have r0 := CR.cell 0; have r1 := CR.cell 1; have r2 := CR.cell 2; have HCS := Lib.hid CS; have HCR := Lib.hid CR; clear CS CR; have HB5 := Lib.hid (bel_then HB3.out hw5); clear hw5)))
        | (go_at_call 36; go_must ((refine (ref3_Passings r l A0 A1 A2 C n0 n1 n2 c0 c1 c2 l.length c _ (H0.out.below HB5.out) (HC.out.below HB5.out) (bo_iff.1 hfi).1.fit).mono ?_; rintro e w6 ⟨rfl, hw6⟩; have CS := HCS.out.below hw6; have CR := HCR.out.below hw6; (try clear s0 s1 s2 s3); (try clear r0 r1 r2); have s0 := CS.cell 0; have s1 := CS.cell 1; have s2 := CS.cell 2; have s3 := CS.cell 3; have r0 := CR.cell 0; have r1 := CR.cell 1; have r2 := CR.cell 2; have HCS := Lib.hid CS; have HCR := Lib.hid CR; clear CS CR; have HB6 := Lib.hid (bel_then HB5.out hw6); clear hw6)))
        | (go_at_call 23; go_must ((refine (ref3_Length r A0 A1 A2 n0 n1 n2 c0 c1 c2 _ (H0.out.below HB6.out) (bo_iff.1 hfi).1.fit).mono ?_; rintro e w7 ⟨rfl, hw7⟩; have CS := HCS.out.below hw7; have CR := HCR.out.below hw7; (try clear s0 s1 s2 s3); (try clear r0 r1 r2); have s0 := CS.cell 0; have s1 := CS.cell 1; have s2 := CS.cell 2; have s3 := CS.cell 3; have r0 := CR.cell 0; have r1 := CR.cell 1; have r2 := CR.cell 2; have HCS := Lib.hid CS; have HCR := Lib.hid CR; clear CS CR; have HB7 := Lib.hid (bel_then HB6.out hw7); clear hw7)))
        | (go_at_call 18; go_must (((first | refine (known_ _ (HT.out.below HB7.out)).mono ?_ | refine (known_ _ (HT.out.below HB6.out)).mono ?_ | refine (known_ _ (HT.out.below HB5.out)).mono ?_); rintro e w8 ⟨rfl, hw8⟩))))
      go_ret
      first | exact ⟨rfl, bel_then HB7.out hw8⟩ | exact ⟨rfl, bel_then HB6.out hw8⟩ | exact ⟨rfl, bel_then HB5.out hw8⟩
end Go.Proofs.YtinglbcafcjhfaaDoor
