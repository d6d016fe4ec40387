/- The walk of the law PaceLatest. -/
import Derived.Test.YtinglbcafcjhfaaDoorLawB
import Derived.Test.YtinglbcafcjhfaaDoorLatestA
import Derived.Lib.MinMax
import Derived.BigRegion
import Derived.Test.YtinglbcafcjhfaaDoorGoodD
import Derived.Lib.QuietBelow
namespace Go.Proofs.YtinglbcafcjhfaaDoor
open Go.RowKit
set_option linter.unusedVariables false
set_option linter.unusedSimpArgs false

theorem info_call : (Tryd.prog.info? 75).map (fun i => (i.zero, i.size, i.bytes)) = some (some (.agg #[.int .i64 0, .int .i64 0, .int .i64 0, .int .i64 0, .int .i64 0]), 5, 40) := by kernel_rfl
theorem info_row : (Tryd.prog.info? 77).map (fun i => (i.zero, i.size, i.bytes)) = some (some (.agg #[.int .i64 0, .int .i64 0, .int .i64 0]), 3, 24) := by kernel_rfl
set_option maxRecDepth 100000 in
set_option maxHeartbeats 8000000 in
theorem law_PaceLatest (s : Speeds) (r : Road) (l : List Call) (ts : List Int) (less : Int) (A0 A1 A2 B2 B3 : Option Addr) (n0 n1 n2 m2 m3 c0 c1 c2 d2 d3 : Nat) (C D : Option Addr) (n c m d : Nat) (w : World) (h0 : Rd 5 Piece.enc w A0 n0 r.pieces) (h1 : Rd 2 Crest.enc w A1 n1 r.crests) (h2 : Rd 3 Junction.enc w A2 n2 r.juncs) (g2 : Rd 3 SpeedRow.enc w B2 m2 s.rows) (g3 : Rd 1 intEnc w B3 m3 s.surface) (hc : Rd 5 Call.enc w C n l) (hd : Rd 1 intEnc w D m ts) (hw : -9223372036854775808 ≤ less ∧ less ≤ 9223372036854775807) (ht : Tab w) :
    Calls Tryd.prog 8 #[.agg #[.slice A0 n0 c0, .slice A1 n1 c1, .slice A2 n2 c2], .agg #[.int .i64 s.least, .int .i64 s.most, .slice B2 m2 d2, .slice B3 m3 d3], .slice C n c, .slice D m d, .int .i64 less] w (LawPost w) := by
  have hnl : n = l.length := hc.1.symm
  subst hnl
  have e1 := h1.1
  have e2 := h2.1
  have f2 := g2.1
  have f3 := g3.1
  have E1 := Lib.hid e1
  have E2 := Lib.hid e2
  have F2 := Lib.hid f2
  have F3 := Lib.hid f3
  have HT := Lib.hid ht
  have HC := Lib.hid hc
  have HD := Lib.hid hd
  have mc1 := hc.2.1
  have md1 := hd.2.1
  clear e1 e2 f2 f3 ht hc hd
  have H0 := Lib.hid h0; have H1 := Lib.hid h1; have H2 := Lib.hid h2; have G2 := Lib.hid g2; have G3 := Lib.hid g3; clear h0 h1 h2 g2 g3
  by_cases hfew : Few r
  rotate_left
  · have hb1 := bo_false hfew
    clear hfew
    go_enter Tryd.func8, Tryd.ntmps8
    go_wp2_with (first
      | (go_at_call 16; go_must ((refine (law_few r A0 A1 A2 n0 n1 n2 c0 c1 c2 _ (H0.out.below (by repeat (first | assumption | exact Below.refl _ _ | apply bel_alloc | apply bel_drew | apply bel_drewN | (refine bel_set ?_ (by first | assumption | omega | (simp; done) | (simp; omega)) _)))) E1.out E2.out).mono ?_; rintro e w1 ⟨rfl, hw1⟩; have CS : Blk w1 (w.heap.size + 1) 30 #[.int .i64 s.least, .int .i64 s.most, .slice B2 m2 d2, .slice B3 m3 d3] := (Blk.new_at _ _ _ _ (by simp)).below hw1; have CR : Blk w1 w.heap.size 26 #[.slice A0 n0 c0, .slice A1 n1 c1, .slice A2 n2 c2] := ((Blk.new _ _ _).alloc _).below hw1; have s0 := CS.cell 0; have s1 := CS.cell 1; have s2 := CS.cell 2; have s3 := CS.cell 3; have HCS := Lib.hid CS; have HCR := Lib.hid CR; clear CS CR; have hv1 : Below w.heap.size w w1 := bel_then (by repeat (first | assumption | exact Below.refl _ _ | apply bel_alloc | apply bel_drew | apply bel_drewN | (refine bel_set ?_ (by first | assumption | omega | (simp; done) | (simp; omega)) _))) hw1; have HB1 := Lib.hid hv1; clear hw1 hv1)))
      | (go_at_call 18; go_must ((refine (known_ _ (HT.out.below HB1.out)).mono ?_; rintro e w2 ⟨rfl, hw2⟩))))
    go_ret
    exact ⟨rfl, bel_then HB1.out hw2⟩
  have hb1 := bo_true hfew
  have HFEW := Lib.hid hfew
  clear hfew
  by_cases hquick : Quick s
  rotate_left
  · have hb2 := bo_false hquick
    clear hquick
    go_enter Tryd.func8, Tryd.ntmps8
    go_wp2_with (first
      | (go_at_call 16; go_must ((refine (law_few r A0 A1 A2 n0 n1 n2 c0 c1 c2 _ (H0.out.below (by repeat (first | assumption | exact Below.refl _ _ | apply bel_alloc | apply bel_drew | apply bel_drewN | (refine bel_set ?_ (by first | assumption | omega | (simp; done) | (simp; omega)) _)))) E1.out E2.out).mono ?_; rintro e w1 ⟨rfl, hw1⟩; have CS : Blk w1 (w.heap.size + 1) 30 #[.int .i64 s.least, .int .i64 s.most, .slice B2 m2 d2, .slice B3 m3 d3] := (Blk.new_at _ _ _ _ (by simp)).below hw1; have CR : Blk w1 w.heap.size 26 #[.slice A0 n0 c0, .slice A1 n1 c1, .slice A2 n2 c2] := ((Blk.new _ _ _).alloc _).below hw1; have s0 := CS.cell 0; have s1 := CS.cell 1; have s2 := CS.cell 2; have s3 := CS.cell 3; have HCS := Lib.hid CS; have HCR := Lib.hid CR; clear CS CR; have hv1 : Below w.heap.size w w1 := bel_then (by repeat (first | assumption | exact Below.refl _ _ | apply bel_alloc | apply bel_drew | apply bel_drewN | (refine bel_set ?_ (by first | assumption | omega | (simp; done) | (simp; omega)) _))) hw1; have HB1 := Lib.hid hv1; clear hw1 hv1)))
      | (go_at_call 17; go_must ((refine (law_quick s B2 B3 m2 m3 d2 d3 _ F2.out F3.out).mono ?_; rintro e w2 ⟨rfl, hw2⟩; have CS := HCS.out.below hw2; have CR := HCR.out.below hw2; clear s0 s1 s2 s3; have s0 := CS.cell 0; have s1 := CS.cell 1; have s2 := CS.cell 2; have s3 := CS.cell 3; have r0 := CR.cell 0; have r1 := CR.cell 1; have r2 := CR.cell 2; have HCS := Lib.hid CS; have HCR := Lib.hid CR; clear CS CR; have HB2 := Lib.hid (bel_then HB1.out hw2); clear hw2)))
      | (go_at_call 18; go_must ((refine (known_ _ (HT.out.below HB2.out)).mono ?_; rintro e w3 ⟨rfl, hw3⟩))))
    go_ret
    exact ⟨rfl, bel_then HB2.out hw3⟩
  have hb2 := bo_true hquick
  have HQ := Lib.hid hquick
  clear hquick
  have hcases : decide ((l.length : Int) ≤ 8) = false ∨ decide ((l.length : Int) ≤ 8) = true ∧ bo (Fine r s) = false ∨ decide ((l.length : Int) ≤ 8) = true ∧ bo (Fine r s) = true ∧ bo (CallsOk r.length l) = false ∨ decide ((l.length : Int) ≤ 8) = true ∧ bo (Fine r s) = true ∧ bo (CallsOk r.length l) = true ∧ bo (TrigsOk r.length l.length ts) = false ∨ decide ((l.length : Int) ≤ 8) = true ∧ bo (Fine r s) = true ∧ bo (CallsOk r.length l) = true ∧ bo (TrigsOk r.length l.length ts) = true ∧ decide (less < 0) = true ∨ decide ((l.length : Int) ≤ 8) = true ∧ bo (Fine r s) = true ∧ bo (CallsOk r.length l) = true ∧ bo (TrigsOk r.length l.length ts) = true ∧ decide (less < 0) = false := by
    rcases decide ((l.length : Int) ≤ 8) <;> rcases bo (Fine r s) <;> rcases bo (CallsOk r.length l) <;> rcases bo (TrigsOk r.length l.length ts) <;> rcases decide (less < 0) <;> simp
  rcases hcases with hb3 | ⟨hb3, hfi⟩ | ⟨hb3, hfi, hco⟩ | ⟨hb3, hfi, hco, hto⟩ | ⟨hb3, hfi, hco, hto, hle⟩ | ⟨hb3, hfi, hco, hto, hle⟩
  · go_enter Tryd.func8, Tryd.ntmps8
    go_wp2_with (first
      | (go_at_call 16; go_must ((refine (law_few r A0 A1 A2 n0 n1 n2 c0 c1 c2 _ (H0.out.below (by repeat (first | assumption | exact Below.refl _ _ | apply bel_alloc | apply bel_drew | apply bel_drewN | (refine bel_set ?_ (by first | assumption | omega | (simp; done) | (simp; omega)) _)))) E1.out E2.out).mono ?_; rintro e w1 ⟨rfl, hw1⟩; have CS : Blk w1 (w.heap.size + 1) 30 #[.int .i64 s.least, .int .i64 s.most, .slice B2 m2 d2, .slice B3 m3 d3] := (Blk.new_at _ _ _ _ (by simp)).below hw1; have CR : Blk w1 w.heap.size 26 #[.slice A0 n0 c0, .slice A1 n1 c1, .slice A2 n2 c2] := ((Blk.new _ _ _).alloc _).below hw1; have s0 := CS.cell 0; have s1 := CS.cell 1; have s2 := CS.cell 2; have s3 := CS.cell 3; have HCS := Lib.hid CS; have HCR := Lib.hid CR; clear CS CR; have hv1 : Below w.heap.size w w1 := bel_then (by repeat (first | assumption | exact Below.refl _ _ | apply bel_alloc | apply bel_drew | apply bel_drewN | (refine bel_set ?_ (by first | assumption | omega | (simp; done) | (simp; omega)) _))) hw1; have HB1 := Lib.hid hv1; clear hw1 hv1)))
      | (go_at_call 17; go_must ((refine (law_quick s B2 B3 m2 m3 d2 d3 _ F2.out F3.out).mono ?_; rintro e w2 ⟨rfl, hw2⟩; have CS := HCS.out.below hw2; have CR := HCR.out.below hw2; clear s0 s1 s2 s3; have s0 := CS.cell 0; have s1 := CS.cell 1; have s2 := CS.cell 2; have s3 := CS.cell 3; have r0 := CR.cell 0; have r1 := CR.cell 1; have r2 := CR.cell 2; have HCS := Lib.hid CS; have HCR := Lib.hid CR; clear CS CR; have HB2 := Lib.hid (bel_then HB1.out hw2); clear hw2)))
      | (go_at_call 30; go_must ((refine (law_some _ _ _ _).mono ?_; rintro e wz ⟨rfl, rfl⟩)))
      | (go_at_call 22; go_must ((refine (law_fine s r A0 A1 A2 B2 B3 n0 n1 n2 m2 m3 c0 c1 c2 d2 d3 _ (H0.out.below HB2.out) (H1.out.below HB2.out) (H2.out.below HB2.out) (G2.out.below HB2.out) (G3.out.below HB2.out)).mono ?_; rintro e w3 ⟨rfl, hw3⟩; have CS := HCS.out.below hw3; have CR := HCR.out.below hw3; (try clear s0 s1 s2 s3); (try clear r0 r1 r2); have s0 := CS.cell 0; have s1 := CS.cell 1; have s2 := CS.cell 2; have s3 := CS.cell 3; have r0 := CR.cell 0; have r1 := CR.cell 1; have r2 := CR.cell 2; have HCS := Lib.hid CS; have HCR := Lib.hid CR; clear CS CR; have HB3 := Lib.hid (bel_then HB2.out hw3); clear hw3)))
      | (go_at_call 32; go_must ((refine (ref3_Calls r l A0 A1 A2 C n0 n1 n2 c0 c1 c2 l.length c _ (H0.out.below HB3.out) (HC.out.below HB3.out) (bo_iff.1 hfi).1.fit).mono ?_; rintro e w4 ⟨rfl, hw4⟩; have CS := HCS.out.below hw4; have CR := HCR.out.below hw4; (try clear s0 s1 s2 s3); (try clear r0 r1 r2); have s0 := CS.cell 0; have s1 := CS.cell 1; have s2 := CS.cell 2; have s3 := CS.cell 3; have r0 := CR.cell 0; have r1 := CR.cell 1; have r2 := CR.cell 2; have HCS := Lib.hid CS; have HCR := Lib.hid CR; clear CS CR; have HB4 := Lib.hid (bel_then HB3.out hw4); clear hw4)))
      | (go_at_call 39; go_must ((refine (ref3_Triggers r ts A0 A1 A2 C D n0 n1 n2 c0 c1 c2 l.length c m d _ (H0.out.below HB4.out) (HD.out.below HB4.out) (bo_iff.1 hfi).1.fit).mono ?_; rintro e w5 ⟨rfl, hw5⟩; have CS := HCS.out.below hw5; have CR := HCR.out.below hw5; (try clear s0 s1 s2 s3); (try clear r0 r1 r2); have s0 := CS.cell 0; have s1 := CS.cell 1; have s2 := CS.cell 2; have s3 := CS.cell 3; have r0 := CR.cell 0; have r1 := CR.cell 1; have r2 := CR.cell 2; have HCS := Lib.hid CS; have HCR := Lib.hid CR; clear CS CR; have HB5 := Lib.hid (bel_then HB4.out hw5); clear hw5)))
      | (go_at_call 18; go_must (((first | refine (known_ _ (HT.out.below HB5.out)).mono ?_ | refine (known_ _ (HT.out.below HB4.out)).mono ?_ | refine (known_ _ (HT.out.below HB3.out)).mono ?_ | refine (known_ _ (HT.out.below HB2.out)).mono ?_); rintro e w8 ⟨rfl, hw8⟩))))
    go_ret
    first | exact ⟨rfl, bel_then HB5.out hw8⟩ | exact ⟨rfl, bel_then HB4.out hw8⟩ | exact ⟨rfl, bel_then HB3.out hw8⟩ | exact ⟨rfl, bel_then HB2.out hw8⟩
  · go_enter Tryd.func8, Tryd.ntmps8
    go_wp2_with (first
      | (go_at_call 16; go_must ((refine (law_few r A0 A1 A2 n0 n1 n2 c0 c1 c2 _ (H0.out.below (by repeat (first | assumption | exact Below.refl _ _ | apply bel_alloc | apply bel_drew | apply bel_drewN | (refine bel_set ?_ (by first | assumption | omega | (simp; done) | (simp; omega)) _)))) E1.out E2.out).mono ?_; rintro e w1 ⟨rfl, hw1⟩; have CS : Blk w1 (w.heap.size + 1) 30 #[.int .i64 s.least, .int .i64 s.most, .slice B2 m2 d2, .slice B3 m3 d3] := (Blk.new_at _ _ _ _ (by simp)).below hw1; have CR : Blk w1 w.heap.size 26 #[.slice A0 n0 c0, .slice A1 n1 c1, .slice A2 n2 c2] := ((Blk.new _ _ _).alloc _).below hw1; have s0 := CS.cell 0; have s1 := CS.cell 1; have s2 := CS.cell 2; have s3 := CS.cell 3; have HCS := Lib.hid CS; have HCR := Lib.hid CR; clear CS CR; have hv1 : Below w.heap.size w w1 := bel_then (by repeat (first | assumption | exact Below.refl _ _ | apply bel_alloc | apply bel_drew | apply bel_drewN | (refine bel_set ?_ (by first | assumption | omega | (simp; done) | (simp; omega)) _))) hw1; have HB1 := Lib.hid hv1; clear hw1 hv1)))
      | (go_at_call 17; go_must ((refine (law_quick s B2 B3 m2 m3 d2 d3 _ F2.out F3.out).mono ?_; rintro e w2 ⟨rfl, hw2⟩; have CS := HCS.out.below hw2; have CR := HCR.out.below hw2; clear s0 s1 s2 s3; have s0 := CS.cell 0; have s1 := CS.cell 1; have s2 := CS.cell 2; have s3 := CS.cell 3; have r0 := CR.cell 0; have r1 := CR.cell 1; have r2 := CR.cell 2; have HCS := Lib.hid CS; have HCR := Lib.hid CR; clear CS CR; have HB2 := Lib.hid (bel_then HB1.out hw2); clear hw2)))
      | (go_at_call 30; go_must ((refine (law_some _ _ _ _).mono ?_; rintro e wz ⟨rfl, rfl⟩)))
      | (go_at_call 22; go_must ((refine (law_fine s r A0 A1 A2 B2 B3 n0 n1 n2 m2 m3 c0 c1 c2 d2 d3 _ (H0.out.below HB2.out) (H1.out.below HB2.out) (H2.out.below HB2.out) (G2.out.below HB2.out) (G3.out.below HB2.out)).mono ?_; rintro e w3 ⟨rfl, hw3⟩; have CS := HCS.out.below hw3; have CR := HCR.out.below hw3; (try clear s0 s1 s2 s3); (try clear r0 r1 r2); have s0 := CS.cell 0; have s1 := CS.cell 1; have s2 := CS.cell 2; have s3 := CS.cell 3; have r0 := CR.cell 0; have r1 := CR.cell 1; have r2 := CR.cell 2; have HCS := Lib.hid CS; have HCR := Lib.hid CR; clear CS CR; have HB3 := Lib.hid (bel_then HB2.out hw3); clear hw3)))
      | (go_at_call 32; go_must ((refine (ref3_Calls r l A0 A1 A2 C n0 n1 n2 c0 c1 c2 l.length c _ (H0.out.below HB3.out) (HC.out.below HB3.out) (bo_iff.1 hfi).1.fit).mono ?_; rintro e w4 ⟨rfl, hw4⟩; have CS := HCS.out.below hw4; have CR := HCR.out.below hw4; (try clear s0 s1 s2 s3); (try clear r0 r1 r2); have s0 := CS.cell 0; have s1 := CS.cell 1; have s2 := CS.cell 2; have s3 := CS.cell 3; have r0 := CR.cell 0; have r1 := CR.cell 1; have r2 := CR.cell 2; have HCS := Lib.hid CS; have HCR := Lib.hid CR; clear CS CR; have HB4 := Lib.hid (bel_then HB3.out hw4); clear hw4)))
      | (go_at_call 39; go_must ((refine (ref3_Triggers r ts A0 A1 A2 C D n0 n1 n2 c0 c1 c2 l.length c m d _ (H0.out.below HB4.out) (HD.out.below HB4.out) (bo_iff.1 hfi).1.fit).mono ?_; rintro e w5 ⟨rfl, hw5⟩; have CS := HCS.out.below hw5; have CR := HCR.out.below hw5; (try clear s0 s1 s2 s3); (try clear r0 r1 r2); have s0 := CS.cell 0; have s1 := CS.cell 1; have s2 := CS.cell 2; have s3 := CS.cell 3; have r0 := CR.cell 0; have r1 := CR.cell 1; have r2 := CR.cell 2; have HCS := Lib.hid CS; have HCR := Lib.hid CR; clear CS CR; have HB5 := Lib.hid (bel_then HB4.out hw5); clear hw5)))
      | (go_at_call 18; go_must (((first | refine (known_ _ (HT.out.below HB5.out)).mono ?_ | refine (known_ _ (HT.out.below HB4.out)).mono ?_ | refine (known_ _ (HT.out.below HB3.out)).mono ?_ | refine (known_ _ (HT.out.below HB2.out)).mono ?_); rintro e w8 ⟨rfl, hw8⟩))))
    go_ret
    first | exact ⟨rfl, bel_then HB5.out hw8⟩ | exact ⟨rfl, bel_then HB4.out hw8⟩ | exact ⟨rfl, bel_then HB3.out hw8⟩ | exact ⟨rfl, bel_then HB2.out hw8⟩
  · go_enter Tryd.func8, Tryd.ntmps8
    go_wp2_with (first
      | (go_at_call 16; go_must ((refine (law_few r A0 A1 A2 n0 n1 n2 c0 c1 c2 _ (H0.out.below (by repeat (first | assumption | exact Below.refl _ _ | apply bel_alloc | apply bel_drew | apply bel_drewN | (refine bel_set ?_ (by first | assumption | omega | (simp; done) | (simp; omega)) _)))) E1.out E2.out).mono ?_; rintro e w1 ⟨rfl, hw1⟩; have CS : Blk w1 (w.heap.size + 1) 30 #[.int .i64 s.least, .int .i64 s.most, .slice B2 m2 d2, .slice B3 m3 d3] := (Blk.new_at _ _ _ _ (by simp)).below hw1; have CR : Blk w1 w.heap.size 26 #[.slice A0 n0 c0, .slice A1 n1 c1, .slice A2 n2 c2] := ((Blk.new _ _ _).alloc _).below hw1; have s0 := CS.cell 0; have s1 := CS.cell 1; have s2 := CS.cell 2; have s3 := CS.cell 3; have HCS := Lib.hid CS; have HCR := Lib.hid CR; clear CS CR; have hv1 : Below w.heap.size w w1 := bel_then (by repeat (first | assumption | exact Below.refl _ _ | apply bel_alloc | apply bel_drew | apply bel_drewN | (refine bel_set ?_ (by first | assumption | omega | (simp; done) | (simp; omega)) _))) hw1; have HB1 := Lib.hid hv1; clear hw1 hv1)))
      | (go_at_call 17; go_must ((refine (law_quick s B2 B3 m2 m3 d2 d3 _ F2.out F3.out).mono ?_; rintro e w2 ⟨rfl, hw2⟩; have CS := HCS.out.below hw2; have CR := HCR.out.below hw2; clear s0 s1 s2 s3; have s0 := CS.cell 0; have s1 := CS.cell 1; have s2 := CS.cell 2; have s3 := CS.cell 3; have r0 := CR.cell 0; have r1 := CR.cell 1; have r2 := CR.cell 2; have HCS := Lib.hid CS; have HCR := Lib.hid CR; clear CS CR; have HB2 := Lib.hid (bel_then HB1.out hw2); clear hw2)))
      | (go_at_call 30; go_must ((refine (law_some _ _ _ _).mono ?_; rintro e wz ⟨rfl, rfl⟩)))
      | (go_at_call 22; go_must ((refine (law_fine s r A0 A1 A2 B2 B3 n0 n1 n2 m2 m3 c0 c1 c2 d2 d3 _ (H0.out.below HB2.out) (H1.out.below HB2.out) (H2.out.below HB2.out) (G2.out.below HB2.out) (G3.out.below HB2.out)).mono ?_; rintro e w3 ⟨rfl, hw3⟩; have CS := HCS.out.below hw3; have CR := HCR.out.below hw3; (try clear s0 s1 s2 s3); (try clear r0 r1 r2); have s0 := CS.cell 0; have s1 := CS.cell 1; have s2 := CS.cell 2; have s3 := CS.cell 3; have r0 := CR.cell 0; have r1 := CR.cell 1; have r2 := CR.cell 2; have HCS := Lib.hid CS; have HCR := Lib.hid CR; clear CS CR; have HB3 := Lib.hid (bel_then HB2.out hw3); clear hw3)))
      | (go_at_call 32; go_must ((refine (ref3_Calls r l A0 A1 A2 C n0 n1 n2 c0 c1 c2 l.length c _ (H0.out.below HB3.out) (HC.out.below HB3.out) (bo_iff.1 hfi).1.fit).mono ?_; rintro e w4 ⟨rfl, hw4⟩; have CS := HCS.out.below hw4; have CR := HCR.out.below hw4; (try clear s0 s1 s2 s3); (try clear r0 r1 r2); have s0 := CS.cell 0; have s1 := CS.cell 1; have s2 := CS.cell 2; have s3 := CS.cell 3; have r0 := CR.cell 0; have r1 := CR.cell 1; have r2 := CR.cell 2; have HCS := Lib.hid CS; have HCR := Lib.hid CR; clear CS CR; have HB4 := Lib.hid (bel_then HB3.out hw4); clear hw4)))
      | (go_at_call 39; go_must ((refine (ref3_Triggers r ts A0 A1 A2 C D n0 n1 n2 c0 c1 c2 l.length c m d _ (H0.out.below HB4.out) (HD.out.below HB4.out) (bo_iff.1 hfi).1.fit).mono ?_; rintro e w5 ⟨rfl, hw5⟩; have CS := HCS.out.below hw5; have CR := HCR.out.below hw5; (try clear s0 s1 s2 s3); (try clear r0 r1 r2); have s0 := CS.cell 0; have s1 := CS.cell 1; have s2 := CS.cell 2; have s3 := CS.cell 3; have r0 := CR.cell 0; have r1 := CR.cell 1; have r2 := CR.cell 2; have HCS := Lib.hid CS; have HCR := Lib.hid CR; clear CS CR; have HB5 := Lib.hid (bel_then HB4.out hw5); clear hw5)))
      | (go_at_call 18; go_must (((first | refine (known_ _ (HT.out.below HB5.out)).mono ?_ | refine (known_ _ (HT.out.below HB4.out)).mono ?_ | refine (known_ _ (HT.out.below HB3.out)).mono ?_ | refine (known_ _ (HT.out.below HB2.out)).mono ?_); rintro e w8 ⟨rfl, hw8⟩))))
    go_ret
    first | exact ⟨rfl, bel_then HB5.out hw8⟩ | exact ⟨rfl, bel_then HB4.out hw8⟩ | exact ⟨rfl, bel_then HB3.out hw8⟩ | exact ⟨rfl, bel_then HB2.out hw8⟩
  · go_enter Tryd.func8, Tryd.ntmps8
    go_wp2_with (first
      | (go_at_call 16; go_must ((refine (law_few r A0 A1 A2 n0 n1 n2 c0 c1 c2 _ (H0.out.below (by repeat (first | assumption | exact Below.refl _ _ | apply bel_alloc | apply bel_drew | apply bel_drewN | (refine bel_set ?_ (by first | assumption | omega | (simp; done) | (simp; omega)) _)))) E1.out E2.out).mono ?_; rintro e w1 ⟨rfl, hw1⟩; have CS : Blk w1 (w.heap.size + 1) 30 #[.int .i64 s.least, .int .i64 s.most, .slice B2 m2 d2, .slice B3 m3 d3] := (Blk.new_at _ _ _ _ (by simp)).below hw1; have CR : Blk w1 w.heap.size 26 #[.slice A0 n0 c0, .slice A1 n1 c1, .slice A2 n2 c2] := ((Blk.new _ _ _).alloc _).below hw1; have s0 := CS.cell 0; have s1 := CS.cell 1; have s2 := CS.cell 2; have s3 := CS.cell 3; have HCS := Lib.hid CS; have HCR := Lib.hid CR; clear CS CR; have hv1 : Below w.heap.size w w1 := bel_then (by repeat (first | assumption | exact Below.refl _ _ | apply bel_alloc | apply bel_drew | apply bel_drewN | (refine bel_set ?_ (by first | assumption | omega | (simp; done) | (simp; omega)) _))) hw1; have HB1 := Lib.hid hv1; clear hw1 hv1)))
      | (go_at_call 17; go_must ((refine (law_quick s B2 B3 m2 m3 d2 d3 _ F2.out F3.out).mono ?_; rintro e w2 ⟨rfl, hw2⟩; have CS := HCS.out.below hw2; have CR := HCR.out.below hw2; clear s0 s1 s2 s3; have s0 := CS.cell 0; have s1 := CS.cell 1; have s2 := CS.cell 2; have s3 := CS.cell 3; have r0 := CR.cell 0; have r1 := CR.cell 1; have r2 := CR.cell 2; have HCS := Lib.hid CS; have HCR := Lib.hid CR; clear CS CR; have HB2 := Lib.hid (bel_then HB1.out hw2); clear hw2)))
      | (go_at_call 30; go_must ((refine (law_some _ _ _ _).mono ?_; rintro e wz ⟨rfl, rfl⟩)))
      | (go_at_call 22; go_must ((refine (law_fine s r A0 A1 A2 B2 B3 n0 n1 n2 m2 m3 c0 c1 c2 d2 d3 _ (H0.out.below HB2.out) (H1.out.below HB2.out) (H2.out.below HB2.out) (G2.out.below HB2.out) (G3.out.below HB2.out)).mono ?_; rintro e w3 ⟨rfl, hw3⟩; have CS := HCS.out.below hw3; have CR := HCR.out.below hw3; (try clear s0 s1 s2 s3); (try clear r0 r1 r2); have s0 := CS.cell 0; have s1 := CS.cell 1; have s2 := CS.cell 2; have s3 := CS.cell 3; have r0 := CR.cell 0; have r1 := CR.cell 1; have r2 := CR.cell 2; have HCS := Lib.hid CS; have HCR := Lib.hid CR; clear CS CR; have HB3 := Lib.hid (bel_then HB2.out hw3); clear hw3)))
      | (go_at_call 32; go_must ((refine (ref3_Calls r l A0 A1 A2 C n0 n1 n2 c0 c1 c2 l.length c _ (H0.out.below HB3.out) (HC.out.below HB3.out) (bo_iff.1 hfi).1.fit).mono ?_; rintro e w4 ⟨rfl, hw4⟩; have CS := HCS.out.below hw4; have CR := HCR.out.below hw4; (try clear s0 s1 s2 s3); (try clear r0 r1 r2); have s0 := CS.cell 0; have s1 := CS.cell 1; have s2 := CS.cell 2; have s3 := CS.cell 3; have r0 := CR.cell 0; have r1 := CR.cell 1; have r2 := CR.cell 2; have HCS := Lib.hid CS; have HCR := Lib.hid CR; clear CS CR; have HB4 := Lib.hid (bel_then HB3.out hw4); clear hw4)))
      | (go_at_call 39; go_must ((refine (ref3_Triggers r ts A0 A1 A2 C D n0 n1 n2 c0 c1 c2 l.length c m d _ (H0.out.below HB4.out) (HD.out.below HB4.out) (bo_iff.1 hfi).1.fit).mono ?_; rintro e w5 ⟨rfl, hw5⟩; have CS := HCS.out.below hw5; have CR := HCR.out.below hw5; (try clear s0 s1 s2 s3); (try clear r0 r1 r2); have s0 := CS.cell 0; have s1 := CS.cell 1; have s2 := CS.cell 2; have s3 := CS.cell 3; have r0 := CR.cell 0; have r1 := CR.cell 1; have r2 := CR.cell 2; have HCS := Lib.hid CS; have HCR := Lib.hid CR; clear CS CR; have HB5 := Lib.hid (bel_then HB4.out hw5); clear hw5)))
      | (go_at_call 18; go_must (((first | refine (known_ _ (HT.out.below HB5.out)).mono ?_ | refine (known_ _ (HT.out.below HB4.out)).mono ?_ | refine (known_ _ (HT.out.below HB3.out)).mono ?_ | refine (known_ _ (HT.out.below HB2.out)).mono ?_); rintro e w8 ⟨rfl, hw8⟩))))
    go_ret
    first | exact ⟨rfl, bel_then HB5.out hw8⟩ | exact ⟨rfl, bel_then HB4.out hw8⟩ | exact ⟨rfl, bel_then HB3.out hw8⟩ | exact ⟨rfl, bel_then HB2.out hw8⟩
  · go_enter Tryd.func8, Tryd.ntmps8
    go_wp2_with (first
      | (go_at_call 16; go_must ((refine (law_few r A0 A1 A2 n0 n1 n2 c0 c1 c2 _ (H0.out.below (by repeat (first | assumption | exact Below.refl _ _ | apply bel_alloc | apply bel_drew | apply bel_drewN | (refine bel_set ?_ (by first | assumption | omega | (simp; done) | (simp; omega)) _)))) E1.out E2.out).mono ?_; rintro e w1 ⟨rfl, hw1⟩; have CS : Blk w1 (w.heap.size + 1) 30 #[.int .i64 s.least, .int .i64 s.most, .slice B2 m2 d2, .slice B3 m3 d3] := (Blk.new_at _ _ _ _ (by simp)).below hw1; have CR : Blk w1 w.heap.size 26 #[.slice A0 n0 c0, .slice A1 n1 c1, .slice A2 n2 c2] := ((Blk.new _ _ _).alloc _).below hw1; have s0 := CS.cell 0; have s1 := CS.cell 1; have s2 := CS.cell 2; have s3 := CS.cell 3; have HCS := Lib.hid CS; have HCR := Lib.hid CR; clear CS CR; have hv1 : Below w.heap.size w w1 := bel_then (by repeat (first | assumption | exact Below.refl _ _ | apply bel_alloc | apply bel_drew | apply bel_drewN | (refine bel_set ?_ (by first | assumption | omega | (simp; done) | (simp; omega)) _))) hw1; have HB1 := Lib.hid hv1; clear hw1 hv1)))
      | (go_at_call 17; go_must ((refine (law_quick s B2 B3 m2 m3 d2 d3 _ F2.out F3.out).mono ?_; rintro e w2 ⟨rfl, hw2⟩; have CS := HCS.out.below hw2; have CR := HCR.out.below hw2; clear s0 s1 s2 s3; have s0 := CS.cell 0; have s1 := CS.cell 1; have s2 := CS.cell 2; have s3 := CS.cell 3; have r0 := CR.cell 0; have r1 := CR.cell 1; have r2 := CR.cell 2; have HCS := Lib.hid CS; have HCR := Lib.hid CR; clear CS CR; have HB2 := Lib.hid (bel_then HB1.out hw2); clear hw2)))
      | (go_at_call 30; go_must ((refine (law_some _ _ _ _).mono ?_; rintro e wz ⟨rfl, rfl⟩)))
      | (go_at_call 22; go_must ((refine (law_fine s r A0 A1 A2 B2 B3 n0 n1 n2 m2 m3 c0 c1 c2 d2 d3 _ (H0.out.below HB2.out) (H1.out.below HB2.out) (H2.out.below HB2.out) (G2.out.below HB2.out) (G3.out.below HB2.out)).mono ?_; rintro e w3 ⟨rfl, hw3⟩; have CS := HCS.out.below hw3; have CR := HCR.out.below hw3; (try clear s0 s1 s2 s3); (try clear r0 r1 r2); have s0 := CS.cell 0; have s1 := CS.cell 1; have s2 := CS.cell 2; have s3 := CS.cell 3; have r0 := CR.cell 0; have r1 := CR.cell 1; have r2 := CR.cell 2; have HCS := Lib.hid CS; have HCR := Lib.hid CR; clear CS CR; have HB3 := Lib.hid (bel_then HB2.out hw3); clear hw3)))
      | (go_at_call 32; go_must ((refine (ref3_Calls r l A0 A1 A2 C n0 n1 n2 c0 c1 c2 l.length c _ (H0.out.below HB3.out) (HC.out.below HB3.out) (bo_iff.1 hfi).1.fit).mono ?_; rintro e w4 ⟨rfl, hw4⟩; have CS := HCS.out.below hw4; have CR := HCR.out.below hw4; (try clear s0 s1 s2 s3); (try clear r0 r1 r2); have s0 := CS.cell 0; have s1 := CS.cell 1; have s2 := CS.cell 2; have s3 := CS.cell 3; have r0 := CR.cell 0; have r1 := CR.cell 1; have r2 := CR.cell 2; have HCS := Lib.hid CS; have HCR := Lib.hid CR; clear CS CR; have HB4 := Lib.hid (bel_then HB3.out hw4); clear hw4)))
      | (go_at_call 39; go_must ((refine (ref3_Triggers r ts A0 A1 A2 C D n0 n1 n2 c0 c1 c2 l.length c m d _ (H0.out.below HB4.out) (HD.out.below HB4.out) (bo_iff.1 hfi).1.fit).mono ?_; rintro e w5 ⟨rfl, hw5⟩; have CS := HCS.out.below hw5; have CR := HCR.out.below hw5; (try clear s0 s1 s2 s3); (try clear r0 r1 r2); have s0 := CS.cell 0; have s1 := CS.cell 1; have s2 := CS.cell 2; have s3 := CS.cell 3; have r0 := CR.cell 0; have r1 := CR.cell 1; have r2 := CR.cell 2; have HCS := Lib.hid CS; have HCR := Lib.hid CR; clear CS CR; have HB5 := Lib.hid (bel_then HB4.out hw5); clear hw5)))
      | (go_at_call 18; go_must (((first | refine (known_ _ (HT.out.below HB5.out)).mono ?_ | refine (known_ _ (HT.out.below HB4.out)).mono ?_ | refine (known_ _ (HT.out.below HB3.out)).mono ?_ | refine (known_ _ (HT.out.below HB2.out)).mono ?_); rintro e w8 ⟨rfl, hw8⟩))))
    go_ret
    first | exact ⟨rfl, bel_then HB5.out hw8⟩ | exact ⟨rfl, bel_then HB4.out hw8⟩ | exact ⟨rfl, bel_then HB3.out hw8⟩ | exact ⟨rfl, bel_then HB2.out hw8⟩
  have HR : Hid r.Valid := Lib.hid (bo_iff.1 hfi).1
  have HS : Hid s.Valid := Lib.hid (bo_iff.1 hfi).2
  have HO : Hid (CallsOk r.length l) := Lib.hid (bo_iff.1 hco)
  have HTs : Hid (TrigsOk r.length l.length ts) := Lib.hid (bo_iff.1 hto)
  have hle0 : 0 ≤ less := by simpa using hle
  obtain ⟨V, hV⟩ : ∃ V, bo (GoodPlan (sumsOf s r) l ts) = V := ⟨_, rfl⟩
  have HV := Lib.hid hV
  have hn3 := HO.out.1
  clear hV
  go_enter Tryd.func8, Tryd.ntmps8
  go_wp2_with (first
    | (go_at_call 16; go_must ((refine (law_few r A0 A1 A2 n0 n1 n2 c0 c1 c2 _ (H0.out.below (by repeat (first | assumption | exact Below.refl _ _ | apply bel_alloc | apply bel_drew | apply bel_drewN | (refine bel_set ?_ (by first | assumption | omega | (simp; done) | (simp; omega)) _)))) E1.out E2.out).mono ?_; rintro e w1 ⟨rfl, hw1⟩; have CS : Blk w1 (w.heap.size + 1) 30 #[.int .i64 s.least, .int .i64 s.most, .slice B2 m2 d2, .slice B3 m3 d3] := (Blk.new_at _ _ _ _ (by simp)).below hw1; have CR : Blk w1 w.heap.size 26 #[.slice A0 n0 c0, .slice A1 n1 c1, .slice A2 n2 c2] := ((Blk.new _ _ _).alloc _).below hw1; have s0 := CS.cell 0; have s1 := CS.cell 1; have s2 := CS.cell 2; have s3 := CS.cell 3; have HCS := Lib.hid CS; have HCR := Lib.hid CR; clear CS CR; have hv1 : Below w.heap.size w w1 := bel_then (by repeat (first | assumption | exact Below.refl _ _ | apply bel_alloc | apply bel_drew | apply bel_drewN | (refine bel_set ?_ (by first | assumption | omega | (simp; done) | (simp; omega)) _))) hw1; have HB1 := Lib.hid hv1; clear hw1 hv1)))
    | (go_at_call 17; go_must ((refine (law_quick s B2 B3 m2 m3 d2 d3 _ F2.out F3.out).mono ?_; rintro e w2 ⟨rfl, hw2⟩; have CS := HCS.out.below hw2; have CR := HCR.out.below hw2; clear s0 s1 s2 s3; have s0 := CS.cell 0; have s1 := CS.cell 1; have s2 := CS.cell 2; have s3 := CS.cell 3; have r0 := CR.cell 0; have r1 := CR.cell 1; have r2 := CR.cell 2; have HCS := Lib.hid CS; have HCR := Lib.hid CR; clear CS CR; have HB2 := Lib.hid (bel_then HB1.out hw2); clear hw2)))
    | (go_at_call 30; go_must ((refine (law_some _ _ _ _).mono ?_; rintro e wz ⟨rfl, rfl⟩)))
    | (go_at_call 22; go_must ((refine (law_fine s r A0 A1 A2 B2 B3 n0 n1 n2 m2 m3 c0 c1 c2 d2 d3 _ (H0.out.below HB2.out) (H1.out.below HB2.out) (H2.out.below HB2.out) (G2.out.below HB2.out) (G3.out.below HB2.out)).mono ?_; rintro e w3 ⟨rfl, hw3⟩; have CS := HCS.out.below hw3; have CR := HCR.out.below hw3; (try clear s0 s1 s2 s3); (try clear r0 r1 r2); have s0 := CS.cell 0; have s1 := CS.cell 1; have s2 := CS.cell 2; have s3 := CS.cell 3; have r0 := CR.cell 0; have r1 := CR.cell 1; have r2 := CR.cell 2; have HCS := Lib.hid CS; have HCR := Lib.hid CR; clear CS CR; have HB3 := Lib.hid (bel_then HB2.out hw3); clear hw3)))
    | (go_at_call 32; go_must ((refine (ref3_Calls r l A0 A1 A2 C n0 n1 n2 c0 c1 c2 l.length c _ (H0.out.below HB3.out) (HC.out.below HB3.out) (bo_iff.1 hfi).1.fit).mono ?_; rintro e w4 ⟨rfl, hw4⟩; have CS := HCS.out.below hw4; have CR := HCR.out.below hw4; (try clear s0 s1 s2 s3); (try clear r0 r1 r2); have s0 := CS.cell 0; have s1 := CS.cell 1; have s2 := CS.cell 2; have s3 := CS.cell 3; have r0 := CR.cell 0; have r1 := CR.cell 1; have r2 := CR.cell 2; have HCS := Lib.hid CS; have HCR := Lib.hid CR; clear CS CR; have HB4 := Lib.hid (bel_then HB3.out hw4); clear hw4)))
    | (go_at_call 39; go_must ((refine (ref3_Triggers r ts A0 A1 A2 C D n0 n1 n2 c0 c1 c2 l.length c m d _ (H0.out.below HB4.out) (HD.out.below HB4.out) (bo_iff.1 hfi).1.fit).mono ?_; rintro e w5 ⟨rfl, hw5⟩; have CS := HCS.out.below hw5; have CR := HCR.out.below hw5; (try clear s0 s1 s2 s3); (try clear r0 r1 r2); have s0 := CS.cell 0; have s1 := CS.cell 1; have s2 := CS.cell 2; have s3 := CS.cell 3; have r0 := CR.cell 0; have r1 := CR.cell 1; have r2 := CR.cell 2; have HCS := Lib.hid CS; have HCR := Lib.hid CR; clear CS CR; have HB5 := Lib.hid (bel_then HB4.out hw5); clear hw5)))
    | (go_at_call 38; go_must ((refine (pace_Good_yes s r l ts A0 A1 A2 B2 B3 C D n0 n1 n2 m2 m3 c0 c1 c2 d2 d3 l.length c m d _ (H0.out.below HB5.out) (H1.out.below HB5.out) (H2.out.below HB5.out) (G2.out.below HB5.out) (G3.out.below HB5.out) (HC.out.below HB5.out) (HD.out.below HB5.out) HR.out HS.out HO.out HTs.out).mono ?_; rw [HV.out]; rintro e w6 ⟨rfl, hw6⟩; have CS := HCS.out.below hw6; have CR := HCR.out.below hw6; (try clear s0 s1 s2 s3); (try clear r0 r1 r2); have s0 := CS.cell 0; have s1 := CS.cell 1; have s2 := CS.cell 2; have s3 := CS.cell 3; have r0 := CR.cell 0; have r1 := CR.cell 1; have r2 := CR.cell 2; have HCS := Lib.hid CS; have HCR := Lib.hid CR; clear CS CR; have HB6 := Lib.hid (bel_then HB5.out hw6); clear hw6))))
  go_at_call 31
  refine (pace_Plan_yes s r l A0 A1 A2 B2 B3 C n0 n1 n2 m2 m3 c0 c1 c2 d2 d3 l.length c _ (H0.out.below HB6.out) (H1.out.below HB6.out) (H2.out.below HB6.out) (G2.out.below HB6.out) (G3.out.below HB6.out) (HC.out.below HB6.out) HR.out HS.out HO.out).mono ?_
  intro e w7 hpost
  obtain ⟨hw7, Ap, kp, cp, ca, cb, ct, er, rfl, hkp, hsay⟩ := hpost.says
  clear hpost
  have CS := HCS.out.below hw7; have CR := HCR.out.below hw7; (try clear s0 s1 s2 s3); (try clear r0 r1 r2); have s0 := CS.cell 0; have s1 := CS.cell 1; have s2 := CS.cell 2; have s3 := CS.cell 3; have r0 := CR.cell 0; have r1 := CR.cell 1; have r2 := CR.cell 2; have HCS := Lib.hid CS; have HCR := Lib.hid CR; clear CS CR
  have HB7 := Lib.hid (bel_then HB6.out hw7)
  clear hw7
  have lr := HCR.out.lt
  have ls := HCS.out.lt
  rcases hsay.err with rfl | ⟨rfl, rfl, rfl, rfl, rfl, gs, hi, hg, he, hrd⟩
  · have hvf : V = false := by rw [← HV.out]; exact bo_false (clash_bad HS.out HR.out HO.out HTs.out hsay)
    subst hvf
    clear hsay
    go_wp2_with (go_at_call 18; go_must ((refine (known_ _ (HT.out.below (bel_alloc HB7.out _))).mono ?_; rintro e w8 ⟨rfl, hw8⟩)))
    go_ret
    exact ⟨rfl, bel_then (bel_alloc HB7.out _) hw8⟩
  have HG : Hid (GsIs (sumsOf s r) l gs l.length) := Lib.hid hg
  have HGT : Hid (TrigsOk r.length l.length gs) := Lib.hid (plan_trigs HS.out HR.out HO.out hi hg)
  have HGG : Hid (GoodPlan (sumsOf s r) l gs) := Lib.hid (plan_good HS.out HR.out HO.out hi hg he)
  have HRD := Lib.hid hrd
  clear hsay hi hg he hrd
  have hgg : bo (GoodPlan (sumsOf s r) l gs) = true := bo_true HGG.out
  go_wp2_with (go_at_call 38; go_must ((refine (pace_Good_yes s r l gs A0 A1 A2 B2 B3 C Ap n0 n1 n2 m2 m3 c0 c1 c2 d2 d3 l.length c l.length cp _ (H0.out.below (bel_alloc HB7.out _)) (H1.out.below (bel_alloc HB7.out _)) (H2.out.below (bel_alloc HB7.out _)) (G2.out.below (bel_alloc HB7.out _)) (G3.out.below (bel_alloc HB7.out _)) (HC.out.below (bel_alloc HB7.out _)) (HRD.out.below (bel_alloc (Below.refl _ _) _)) HR.out HS.out HO.out HGT.out).mono ?_; rw [hgg]; rintro e w8 ⟨rfl, hw8⟩; have CS := (HCS.out.alloc _).below hw8; have CR := (HCR.out.alloc _).below hw8; have HCS := Lib.hid CS; have HCR := Lib.hid CR; clear CS CR; have HB8 := Lib.hid (bel_then (bel_alloc HB7.out _) hw8); have HX8 : Hid (Below w7.heap.size w7 w8) := Lib.hid (bel_then (bel_alloc (Below.refl _ _) _) hw8); clear hw8)))
  obtain rfl : m = l.length := by have := HD.out.1; have := HTs.out.1; omega
  go_loopw [18] (fun v18 wr => ∃ k q : Nat, k ≤ l.length ∧ v18 = .int .i64 k ∧ wr = w8.drewN q) (fun v18 _ => l.length - (intOf v18).toNat)
  case atStart => exact ⟨0, 0, Nat.zero_le _, rfl, rfl⟩
  case round =>
    obtain ⟨k, q, hk, rfl, rfl⟩ := hrel
    by_cases hlt : k < l.length
    · obtain ⟨a, ha⟩ := HD.out.get hlt
      have hgl : k < gs.length := by have := HG.out.1; omega
      obtain ⟨b, hb⟩ := HRD.out.get hlt
      obtain ⟨ad, e, x0⟩ := (HD.out.below HB8.out).at1 ha
      cases e
      obtain ⟨ad', e, y0⟩ := (HRD.out.below HX8.out).at1 hb
      cases e
      rcases V with _ | _
      · clear ha hb
        go_wp2
        go_quiet (fail)
        go_wp2
        go_roundw
        case rel => exact ⟨k + 1, _, by omega, by go_num, by first | rfl | rw [World.drewN_drewN]⟩
        case measure => simp [intOf]; omega
      · have hab := plan_max HS.out HR.out HO.out HTs.out HG.out (bo_iff.1 HV.out) ha hb
        have hd : decide (b < a) = false := by simp; omega
        clear ha hb hab
        go_wp2
        go_quiet (fail)
        go_wp2
        go_roundw
        case rel => exact ⟨k + 1, _, by omega, by go_num, by first | rfl | rw [World.drewN_drewN]⟩
        case measure => simp [intOf]; omega
    · obtain rfl : k = l.length := by omega
      go_wp2
      obtain ⟨w9, hw9⟩ : ∃ w9, w8.drewN q = w9 := ⟨_, rfl⟩
      have hb9 : Below w8.heap.size w8 w9 := by rw [← hw9]; exact (by repeat (first | assumption | exact Below.refl _ _ | apply bel_alloc | apply bel_drew | apply bel_drewN | (refine bel_set ?_ (by first | assumption | omega | (simp; done) | (simp; omega)) _)))
      have HCS9 := Lib.hid (HCS.out.below hb9)
      have HCR9 := Lib.hid (HCR.out.below hb9)
      have HB9 := Lib.hid (bel_then HB8.out hb9)
      have HX9 := Lib.hid (bel_then HX8.out hb9)
      rw [hw9]
      clear hw9 hb9
      go_loopw [19, 20] (fun v19 v20 wr => ∃ (k : Nat) (v : Value), k ≤ l.length ∧ v20 = .int .i64 k ∧ v19 = v ∧ Hid (Own 5 Call.enc 75 wr w9.heap.size v (lessCalls less (l.take k))) ∧ Hid (Below w9.heap.size w9 wr)) (fun _ v20 _ => l.length - (intOf v20).toNat)
      case atStart => exact ⟨0, _, Nat.zero_le _, rfl, rfl, Lib.hid Own.nil, Lib.hid (Below.refl _ _)⟩
      case round =>
        obtain ⟨k, v, hk, rfl, rfl, HOw, HBw⟩ := hrel
        by_cases hlt : k < l.length
        · obtain ⟨x, hx⟩ := HC.out.get hlt
          obtain ⟨px1, px2, px3, px4, _⟩ := HO.out.at_ hx
          have hll : (lessCalls less (l.take k)).length ≤ 300 := by rw [less_len, List.length_take]; omega
          obtain ⟨ad, e, x0, x1, x2, x3, x4⟩ := ((HC.out.below HB9.out).below HBw.out).atCall hx
          cases e
          have hwr : IntKind.i64.wrap (x.lasts - less) = x.lasts - less := IntWalk.i64_in _ (by omega)
          obtain ⟨mx, hmx⟩ : ∃ mx, max 0 (x.lasts - less) = mx := ⟨_, rfl⟩
          have HT1 : Hid (lessCalls less (l.take k) ++ [⟨x.place, mx, x.lead, x.ahead, x.value⟩] = lessCalls less (l.take (k + 1))) := Lib.hid (by rw [List.take_add_one, hx, ← hmx]; simp [lessCalls, Call.less])
          have CB := HBw.out
          clear hx px1 px2 px3 px4
          go_wp2_with (at_builtin; refine own_append (sz := 5) (enc := Call.enc) Call.enc_len rfl _ _ 55 (.agg #[.int .i64 0, .int .i64 0, .int .i64 0, .int .i64 0, .int .i64 0]) 40 rfl Tryd.underlying55 info_call rfl (by decide) (by decide) (⟨x.place, mx, x.lead, x.ahead, x.value⟩) _ rfl (w0 := w9) (xs := (lessCalls less (l.take k))) _ (HOw.out.alloc _) rfl _ rfl (by simp) (by repeat (first | assumption | exact Below.refl _ _ | apply bel_alloc | apply bel_drew | apply bel_drewN | (refine bel_set ?_ (by first | assumption | omega | (simp; done) | (simp; omega)) _))) (by omega) ?_; intro g1 cap w10 hown hb10 hg10; (have MO := Lib.hid hown; have MB := Lib.hid hb10; clear hown hb10 hg10))
          go_roundw
          case rel => exact ⟨k + 1, _, by omega, by go_num, rfl, Lib.hid (by rw [← HT1.out]; exact MO.out), MB⟩
          case measure => simp [intOf]; omega
        · obtain rfl : k = l.length := by omega
          have hll2 : (lessCalls less (l.take l.length)) = lessCalls less l := by rw [List.take_length]
          rw [hll2] at HOw
          obtain ⟨As, cs, hvs, hcs, hrs⟩ := HOw.out.reads Call.enc_len
          rw [less_len] at hrs hcs hvs
          subst hvs
          have HRS := Lib.hid hrs
          clear hrs hll2 HOw
          obtain ⟨wq, hwq⟩ : ∃ wq : World, wq = wr := ⟨_, rfl⟩
          subst hwq
          have HCRq := Lib.hid (HCR9.out.below HBw.out)
          have HCSq := Lib.hid (HCS9.out.below HBw.out)
          have HBq := Lib.hid (bel_then HB9.out HBw.out)
          have HXq := Lib.hid (bel_then HX9.out HBw.out)
          have r0 := (HCR9.out.below HBw.out).cell 0
          have r1 := (HCR9.out.below HBw.out).cell 1
          have r2 := (HCR9.out.below HBw.out).cell 2
          have s0 := (HCS9.out.below HBw.out).cell 0
          have s1 := (HCS9.out.below HBw.out).cell 1
          have s2 := (HCS9.out.below HBw.out).cell 2
          have s3 := (HCS9.out.below HBw.out).cell 3
          have lr9 := (HCR9.out.below HBw.out).lt
          have ls9 := (HCS9.out.below HBw.out).lt
          have hbb := bnd_iff.1 HS.out.bounds
          obtain ⟨hb1', hb2', hb3'⟩ := hbb
          have hwn : wq.heap.size < (wq.alloc (.cells #[.int .i64 s.least, .int .i64 s.most, .slice B2 m2 d2, .slice B3 m3 d3] 30)).heap.size := by simp
          go_wp2
          go_cut [] from 155 (fun wc => Hid (Blk wc wq.heap.size 30 #[.int .i64 s.mid.least, .int .i64 s.mid.most, .slice B2 m2 d2, .slice B3 m3 d3]) ∧ Hid (Below wq.heap.size wq wc))
          case first =>
            go_region
            all_goals
              go_wp2
              go_meet
              case rel => exact ⟨Lib.hid (Blk.new _ _ _), Lib.hid (by repeat (first | assumption | exact Below.refl _ _ | apply bel_alloc | apply bel_drew | apply bel_drewN | (refine bel_set ?_ (by first | assumption | omega | (simp; done) | (simp; omega)) _)))⟩
          case rest =>
            obtain ⟨HBn, HBc⟩ := hcut
            have d2' := HBn.out.cell 2
            have df2 := HBn.out.frozen 2
            have ln := HBn.out.lt
            have HCSc := Lib.hid (HCSq.out.below HBc.out)
            clear hb1' hb2' hb3' hwn r0 r1 r2 s0 s1 s2 s3 lr9 ls9
            have lqs := HCSq.out.lt
            go_wp2
            go_loopw [23] (fun v23 wx => ∃ (j : Nat) (v : Value), j ≤ m2 ∧ v23 = .int .i64 j ∧ Hid (Own 3 SpeedRow.enc 77 wx wq.heap.size v ((s.rows.take j).map SpeedRow.mid)) ∧ Hid (Blk wx wq.heap.size 30 #[.int .i64 s.mid.least, .int .i64 s.mid.most, v, .slice B3 m3 d3]) ∧ Hid (Below wq.heap.size wq wx)) (fun v23 _ => m2 - (intOf v23).toNat)
            case atStart => exact ⟨0, _, Nat.zero_le _, rfl, Lib.hid Own.nil, Lib.hid (HBn.out.set 2 _), Lib.hid (by have := HBc.out; exact (by repeat (first | assumption | exact Below.refl _ _ | apply bel_alloc | apply bel_drew | apply bel_drewN | (refine bel_set ?_ (by first | assumption | omega | (simp; done) | (simp; omega)) _))))⟩
            case round =>
              clear d2' df2 ln
              obtain ⟨j, v, hj, rfl, HOj, HBj, HBx⟩ := hrel
              have hm2 := F2.out
              have hm3 := HS.out.few
              have s2 := (HCSq.out.below HBx.out).cell 2
              have lsx := (HCSq.out.below HBx.out).lt
              by_cases hlt : j < m2
              · obtain ⟨x, hx⟩ := G2.out.get hlt
                obtain ⟨hb1', hb2', hb3'⟩ := bnd_iff.1 (HS.out.rows j (by omega) x hx).1
                have HT1 : Hid ((s.rows.take j).map SpeedRow.mid ++ [⟨x.radius, (x.least + x.most) / 2, (x.least + x.most + 1) / 2⟩] = (s.rows.take (j + 1)).map SpeedRow.mid) := Lib.hid (by rw [List.take_add_one, hx]; simp [SpeedRow.mid])
                have HLJ : Hid (((s.rows.take j).map SpeedRow.mid).length = j) := Lib.hid (by rw [List.length_map, List.length_take]; omega)
                have hll : ((s.rows.take j).map SpeedRow.mid).length ≤ 300 := by rw [HLJ.out]; omega
                obtain ⟨ad, e, x0, x1, x2⟩ := (((G2.out.below HBq.out).below HBx.out)).atRow hx
                cases e
                have d2' := HBj.out.cell 2
                have ln := HBj.out.lt
                have CB := HBx.out
                have hne := HOj.out.ne HBj.out (by decide)
                clear hx
                go_wp2_with (at_builtin; refine own_append (sz := 3) (enc := SpeedRow.enc) SpeedRow.enc_len rfl _ _ 27 (.agg #[.int .i64 0, .int .i64 0, .int .i64 0]) 24 rfl Tryd.underlying27 info_row rfl (by decide) (by decide) (⟨x.radius, (x.least + x.most) / 2, (x.least + x.most + 1) / 2⟩) _ rfl (w0 := wq) (xs := ((s.rows.take j).map SpeedRow.mid)) _ (HOj.out.alloc _) rfl _ rfl (by simp) (by repeat (first | assumption | exact Below.refl _ _ | apply bel_alloc | apply bel_drew | apply bel_drewN | (refine bel_set ?_ (by first | assumption | omega | (simp; done) | (simp; omega)) _))) (by omega) ?_; intro g1 cap w10 hown hb10 hg10; (have BN := (HBj.out.alloc _).grown hg10 hne; have d2'' := BN.cell 2; have df2 := BN.frozen 2; have ln2 := BN.lt; have HBN := Lib.hid BN; rw [HLJ.out] at hown; have MO := Lib.hid hown; have MB := Lib.hid hb10; clear hown hb10 hg10 BN))
                go_roundw
                case rel => exact ⟨j + 1, _, by omega, by go_num, Lib.hid (by rw [← HT1.out]; exact MO.out.far (p := ⟨wq.heap.size, 2, none⟩) (MO.out.ne HBN.out (by decide)) _), Lib.hid (HBN.out.set 2 _), Lib.hid (by have := MB.out; exact (by repeat (first | assumption | exact Below.refl _ _ | apply bel_alloc | apply bel_drew | apply bel_drewN | (refine bel_set ?_ (by first | assumption | omega | (simp; done) | (simp; omega)) _))))⟩
                case measure => simp [intOf]; omega
              · obtain rfl : j = m2 := by omega
                have hrr : (s.rows.take j).map SpeedRow.mid = s.mid.rows := by rw [← hm2, List.take_length]; rfl
                rw [hrr] at HOj
                obtain ⟨An, cn, hvn, hcn, hrn⟩ := HOj.out.reads SpeedRow.enc_len
                have hln : s.mid.rows.length = j := by rw [← hm2]; simp [Speeds.mid]
                rw [hln] at hrn hcn hvn
                subst hvn
                have HRN := Lib.hid hrn
                have HBr := Lib.hid (bel_then HBq.out HBx.out)
                have HXr := Lib.hid (bel_then HXq.out HBx.out)
                have r0 := (HCRq.out.below HBx.out).cell 0
                have r1 := (HCRq.out.below HBx.out).cell 1
                have r2 := (HCRq.out.below HBx.out).cell 2
                have s0 := (HCSq.out.below HBx.out).cell 0
                have s1 := (HCSq.out.below HBx.out).cell 1
                have s3 := (HCSq.out.below HBx.out).cell 3
                have hg3 : bo (GoodPlan (sumsOf s r) (lessCalls less l) gs) = true := bo_true (HGG.out.less HO.out hle0)
                have hg4 : bo (GoodPlan (sumsOf s.mid r) l gs) = true := bo_true (HGG.out.mid HS.out HR.out HO.out HGT.out)
                have HGT2 : Hid (TrigsOk r.length (lessCalls less l).length gs) := Lib.hid (by rw [less_len]; exact HGT.out)
                clear hrn hcn hrr hln hcs
                go_wp2_with fail
                go_at_call 38
                refine (pace_Good_yes s r (lessCalls less l) gs A0 A1 A2 B2 B3 As Ap n0 n1 n2 _ m3 c0 c1 c2 d2 d3 l.length cs l.length cp _ (H0.out.below HBr.out) (H1.out.below HBr.out) (H2.out.below HBr.out) (G2.out.below HBr.out) (G3.out.below HBr.out) (HRS.out.below HBx.out) (HRD.out.below HXr.out) HR.out HS.out (HO.out.less hle0) HGT2.out).mono ?_
                rw [hg3]
                rintro e w11 ⟨rfl, hw11⟩
                have HB11 := Lib.hid (bel_then HBr.out hw11)
                have HX11 := Lib.hid (bel_then HXr.out hw11)
                have HBn11 := Lib.hid (HBj.out.below hw11)
                have HCR11 := Lib.hid ((HCRq.out.below HBx.out).below hw11)
                have HRN11 := Lib.hid (HRN.out.below hw11)
                clear r0 r1 r2 s0 s1 s2 s3
                have r0 := HCR11.out.cell 0
                have r1 := HCR11.out.cell 1
                have r2 := HCR11.out.cell 2
                have s0 := HBn11.out.cell 0
                have s1 := HBn11.out.cell 1
                have s2 := HBn11.out.cell 2
                have s3 := HBn11.out.cell 3
                clear hw11
                go_wp2_with fail
                go_at_call 38
                refine (pace_Good_yes s.mid r l gs A0 A1 A2 An B3 C Ap n0 n1 n2 _ m3 c0 c1 c2 cn d3 l.length c l.length cp _ (H0.out.below HB11.out) (H1.out.below HB11.out) (H2.out.below HB11.out) HRN11.out (G3.out.below HB11.out) (HC.out.below HB11.out) (HRD.out.below HX11.out) HR.out HS.out.mid HO.out HGT.out).mono ?_
                rw [hg4]
                rintro e w12 ⟨rfl, hw12⟩
                have HB12 := Lib.hid (bel_then HB11.out hw12)
                clear hw12 r0 r1 r2 s0 s1 s2 s3
                go_wp2_with (go_at_call 18; go_must ((refine (known_ _ (HT.out.below HB12.out)).mono ?_; rintro e w13 ⟨rfl, hw13⟩)))
                go_ret
                exact ⟨rfl, bel_then HB12.out hw13⟩
end Go.Proofs.YtinglbcafcjhfaaDoor
