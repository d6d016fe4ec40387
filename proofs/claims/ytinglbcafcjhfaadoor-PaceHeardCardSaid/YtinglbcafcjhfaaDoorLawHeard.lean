/- The walk of the law PaceHeard. -/
import Derived.Test.YtinglbcafcjhfaaDoorLawB
import Derived.Test.YtinglbcafcjhfaaDoorHeardA
import Derived.Test.YtinglbcafcjhfaaDoorNarrowB
import Derived.Lib.MinMax
import Derived.Test.YtinglbcafcjhfaaDoorGoodD
import Derived.Test.YtinglbcafcjhfaaDoorFitD
import Derived.Lib.QuietBelow
import Derived.Deep.DeepCutAuto
namespace Go.Proofs.YtinglbcafcjhfaaDoor
open Go.RowKit
set_option linter.unusedVariables false
set_option linter.unusedSimpArgs false

/-- What stands behind the choice of a plan: the latest plan, or the one proposed, or none. -/
def ChosePlan (s : Speeds) (r : Road) (l : List Call) (wc : World) (A : Option Addr) (k : Nat) (er : Int) (pl : List Int) : Prop := er = 0 → k = l.length ∧ Rd 1 intEnc wc A k pl ∧ TrigsOk r.length l.length pl ∧ GoodPlan (sumsOf s r) l pl
set_option maxRecDepth 100000 in
set_option maxHeartbeats 8000000 in
theorem law_PaceHeard (s : Speeds) (r : Road) (l : List Call) (ts sh : List Int) (A0 A1 A2 B2 B3 : Option Addr) (n0 n1 n2 m2 m3 c0 c1 c2 d2 d3 : Nat) (C D E : Option Addr) (n c m d q e0 : Nat) (w : World) (h0 : Rd 5 Piece.enc w A0 n0 r.pieces) (h1 : Rd 2 Crest.enc w A1 n1 r.crests) (h2 : Rd 3 Junction.enc w A2 n2 r.juncs) (g2 : Rd 3 SpeedRow.enc w B2 m2 s.rows) (g3 : Rd 1 intEnc w B3 m3 s.surface) (hc : Rd 5 Call.enc w C n l) (hd : Rd 1 intEnc w D m ts) (hsh : Rd 1 intEnc w E q sh) (ht : Tab w) :
    Calls Tryd.prog 12 #[.agg #[.slice A0 n0 c0, .slice A1 n1 c1, .slice A2 n2 c2], .agg #[.int .i64 s.least, .int .i64 s.most, .slice B2 m2 d2, .slice B3 m3 d3], .slice C n c, .slice D m d, .slice E q e0] w (LawPost w) := by
  have hnl : n = l.length := hc.1.symm
  subst hnl
  have hml : m = ts.length := hd.1.symm
  subst hml
  have hql : q = sh.length := hsh.1.symm
  subst hql
  have e1 := h1.1
  have e2 := h2.1
  have f2 := g2.1
  have f3 := g3.1
  have E1 := Lib.hid e1
  have E2 := Lib.hid e2
  have F2 := Lib.hid f2
  have F3 := Lib.hid f3
  have HT := Lib.hid ht
  have HC := Lib.hid hc
  have HD := Lib.hid hd
  have HE := Lib.hid hsh
  have mc1 := hc.2.1
  have md1 := hd.2.1
  have me1 := hsh.2.1
  clear e1 e2 f2 f3 ht hc hd hsh
  have H0 := Lib.hid h0; have H1 := Lib.hid h1; have H2 := Lib.hid h2; have G2 := Lib.hid g2; have G3 := Lib.hid g3; clear h0 h1 h2 g2 g3
  by_cases hfew : Few r
  rotate_left
  · have hb1 := bo_false hfew
    clear hfew
    go_enter Tryd.func12, Tryd.ntmps12
    go_wp2_with (first
      | (go_at_call 16; go_must ((refine (law_few r A0 A1 A2 n0 n1 n2 c0 c1 c2 _ (H0.out.below (by repeat (first | assumption | exact Below.refl _ _ | apply bel_alloc | apply bel_drew | apply bel_drewN | (refine bel_set ?_ (by first | assumption | omega | (simp; done) | (simp; omega)) _)))) E1.out E2.out).mono ?_; rintro e w1 ⟨rfl, hw1⟩; have CS : Blk w1 (w.heap.size + 1) 30 #[.int .i64 s.least, .int .i64 s.most, .slice B2 m2 d2, .slice B3 m3 d3] := (Blk.new_at _ _ _ _ (by simp)).below hw1; have CR : Blk w1 w.heap.size 26 #[.slice A0 n0 c0, .slice A1 n1 c1, .slice A2 n2 c2] := ((Blk.new _ _ _).alloc _).below hw1; have s0 := CS.cell 0; have s1 := CS.cell 1; have s2 := CS.cell 2; have s3 := CS.cell 3; have HCS := Lib.hid CS; have HCR := Lib.hid CR; clear CS CR; have hv1 : Below w.heap.size w w1 := bel_then (by repeat (first | assumption | exact Below.refl _ _ | apply bel_alloc | apply bel_drew | apply bel_drewN | (refine bel_set ?_ (by first | assumption | omega | (simp; done) | (simp; omega)) _))) hw1; have HB1 := Lib.hid hv1; clear hw1 hv1)))
      | (go_at_call 18; go_must ((refine (known_ _ (HT.out.below HB1.out)).mono ?_; rintro e w2 ⟨rfl, hw2⟩))))
    go_ret
    exact ⟨rfl, bel_then HB1.out hw2⟩
  have hb1 := bo_true hfew
  have HFEW := Lib.hid hfew
  clear hfew
  by_cases hquick : Quick s
  rotate_left
  · have hb2 := bo_false hquick
    clear hquick
    go_enter Tryd.func12, Tryd.ntmps12
    go_wp2_with (first
      | (go_at_call 16; go_must ((refine (law_few r A0 A1 A2 n0 n1 n2 c0 c1 c2 _ (H0.out.below (by repeat (first | assumption | exact Below.refl _ _ | apply bel_alloc | apply bel_drew | apply bel_drewN | (refine bel_set ?_ (by first | assumption | omega | (simp; done) | (simp; omega)) _)))) E1.out E2.out).mono ?_; rintro e w1 ⟨rfl, hw1⟩; have CS : Blk w1 (w.heap.size + 1) 30 #[.int .i64 s.least, .int .i64 s.most, .slice B2 m2 d2, .slice B3 m3 d3] := (Blk.new_at _ _ _ _ (by simp)).below hw1; have CR : Blk w1 w.heap.size 26 #[.slice A0 n0 c0, .slice A1 n1 c1, .slice A2 n2 c2] := ((Blk.new _ _ _).alloc _).below hw1; have s0 := CS.cell 0; have s1 := CS.cell 1; have s2 := CS.cell 2; have s3 := CS.cell 3; have HCS := Lib.hid CS; have HCR := Lib.hid CR; clear CS CR; have hv1 : Below w.heap.size w w1 := bel_then (by repeat (first | assumption | exact Below.refl _ _ | apply bel_alloc | apply bel_drew | apply bel_drewN | (refine bel_set ?_ (by first | assumption | omega | (simp; done) | (simp; omega)) _))) hw1; have HB1 := Lib.hid hv1; clear hw1 hv1)))
      | (go_at_call 17; go_must ((refine (law_quick s B2 B3 m2 m3 d2 d3 _ F2.out F3.out).mono ?_; rintro e w2 ⟨rfl, hw2⟩; have CS := HCS.out.below hw2; have CR := HCR.out.below hw2; clear s0 s1 s2 s3; have s0 := CS.cell 0; have s1 := CS.cell 1; have s2 := CS.cell 2; have s3 := CS.cell 3; have r0 := CR.cell 0; have r1 := CR.cell 1; have r2 := CR.cell 2; have HCS := Lib.hid CS; have HCR := Lib.hid CR; clear CS CR; have HB2 := Lib.hid (bel_then HB1.out hw2); clear hw2)))
      | (go_at_call 18; go_must ((refine (known_ _ (HT.out.below HB2.out)).mono ?_; rintro e w3 ⟨rfl, hw3⟩))))
    go_ret
    exact ⟨rfl, bel_then HB2.out hw3⟩
  have hb2 := bo_true hquick
  have HQ := Lib.hid hquick
  clear hquick
  have hcases : decide ((l.length : Int) ≤ 8) = false ∨ decide ((l.length : Int) ≤ 8) = true ∧ decide (20 < (ts.length : Int)) = true ∨ decide ((l.length : Int) ≤ 8) = true ∧ decide (20 < (ts.length : Int)) = false ∧ decide (200 < (sh.length : Int)) = true ∨ decide ((l.length : Int) ≤ 8) = true ∧ decide (20 < (ts.length : Int)) = false ∧ decide (200 < (sh.length : Int)) = false ∧ bo (Fine r s) = false ∨ decide ((l.length : Int) ≤ 8) = true ∧ decide (20 < (ts.length : Int)) = false ∧ decide (200 < (sh.length : Int)) = false ∧ bo (Fine r s) = true ∧ bo (CallsOk r.length l) = false ∨ decide ((l.length : Int) ≤ 8) = true ∧ decide (20 < (ts.length : Int)) = false ∧ decide (200 < (sh.length : Int)) = false ∧ bo (Fine r s) = true ∧ bo (CallsOk r.length l) = true := by
    rcases decide ((l.length : Int) ≤ 8) <;> rcases decide (20 < (ts.length : Int)) <;> rcases decide (200 < (sh.length : Int)) <;> rcases bo (Fine r s) <;> rcases bo (CallsOk r.length l) <;> simp
  rcases hcases with hb3 | ⟨hb3, hb4⟩ | ⟨hb3, hb4, hb5⟩ | ⟨hb3, hb4, hb5, hfi⟩ | ⟨hb3, hb4, hb5, hfi, hco⟩ | ⟨hb3, hb4, hb5, hfi, hco⟩
  · go_enter Tryd.func12, Tryd.ntmps12
    go_wp2_with (first
      | (go_at_call 16; go_must ((refine (law_few r A0 A1 A2 n0 n1 n2 c0 c1 c2 _ (H0.out.below (by repeat (first | assumption | exact Below.refl _ _ | apply bel_alloc | apply bel_drew | apply bel_drewN | (refine bel_set ?_ (by first | assumption | omega | (simp; done) | (simp; omega)) _)))) E1.out E2.out).mono ?_; rintro e w1 ⟨rfl, hw1⟩; have CS : Blk w1 (w.heap.size + 1) 30 #[.int .i64 s.least, .int .i64 s.most, .slice B2 m2 d2, .slice B3 m3 d3] := (Blk.new_at _ _ _ _ (by simp)).below hw1; have CR : Blk w1 w.heap.size 26 #[.slice A0 n0 c0, .slice A1 n1 c1, .slice A2 n2 c2] := ((Blk.new _ _ _).alloc _).below hw1; have s0 := CS.cell 0; have s1 := CS.cell 1; have s2 := CS.cell 2; have s3 := CS.cell 3; have HCS := Lib.hid CS; have HCR := Lib.hid CR; clear CS CR; have hv1 : Below w.heap.size w w1 := bel_then (by repeat (first | assumption | exact Below.refl _ _ | apply bel_alloc | apply bel_drew | apply bel_drewN | (refine bel_set ?_ (by first | assumption | omega | (simp; done) | (simp; omega)) _))) hw1; have HB1 := Lib.hid hv1; clear hw1 hv1)))
      | (go_at_call 17; go_must ((refine (law_quick s B2 B3 m2 m3 d2 d3 _ F2.out F3.out).mono ?_; rintro e w2 ⟨rfl, hw2⟩; have CS := HCS.out.below hw2; have CR := HCR.out.below hw2; clear s0 s1 s2 s3; have s0 := CS.cell 0; have s1 := CS.cell 1; have s2 := CS.cell 2; have s3 := CS.cell 3; have r0 := CR.cell 0; have r1 := CR.cell 1; have r2 := CR.cell 2; have HCS := Lib.hid CS; have HCR := Lib.hid CR; clear CS CR; have HB2 := Lib.hid (bel_then HB1.out hw2); clear hw2)))
      | (go_at_call 30; go_must ((refine (law_some _ _ _ _).mono ?_; rintro e wz ⟨rfl, rfl⟩)))
      | (go_at_call 22; go_must ((refine (law_fine s r A0 A1 A2 B2 B3 n0 n1 n2 m2 m3 c0 c1 c2 d2 d3 _ (H0.out.below HB2.out) (H1.out.below HB2.out) (H2.out.below HB2.out) (G2.out.below HB2.out) (G3.out.below HB2.out)).mono ?_; rintro e w3 ⟨rfl, hw3⟩; have CS := HCS.out.below hw3; have CR := HCR.out.below hw3; (try clear s0 s1 s2 s3); (try clear r0 r1 r2); have s0 := CS.cell 0; have s1 := CS.cell 1; have s2 := CS.cell 2; have s3 := CS.cell 3; have r0 := CR.cell 0; have r1 := CR.cell 1; have r2 := CR.cell 2; have HCS := Lib.hid CS; have HCR := Lib.hid CR; clear CS CR; have HB3 := Lib.hid (bel_then HB2.out hw3); clear hw3)))
      | (go_at_call 32; go_must ((refine (ref3_Calls r l A0 A1 A2 C n0 n1 n2 c0 c1 c2 l.length c _ (H0.out.below HB3.out) (HC.out.below HB3.out) (bo_iff.1 hfi).1.fit).mono ?_; rintro e w4 ⟨rfl, hw4⟩; have CS := HCS.out.below hw4; have CR := HCR.out.below hw4; (try clear s0 s1 s2 s3); (try clear r0 r1 r2); have s0 := CS.cell 0; have s1 := CS.cell 1; have s2 := CS.cell 2; have s3 := CS.cell 3; have r0 := CR.cell 0; have r1 := CR.cell 1; have r2 := CR.cell 2; have HCS := Lib.hid CS; have HCR := Lib.hid CR; clear CS CR; have HB4 := Lib.hid (bel_then HB3.out hw4); clear hw4)))
      | (go_at_call 18; go_must (((first | refine (known_ _ (HT.out.below HB4.out)).mono ?_ | refine (known_ _ (HT.out.below HB3.out)).mono ?_ | refine (known_ _ (HT.out.below HB2.out)).mono ?_); rintro e w8 ⟨rfl, hw8⟩))))
    go_ret
    first | exact ⟨rfl, bel_then HB4.out hw8⟩ | exact ⟨rfl, bel_then HB3.out hw8⟩ | exact ⟨rfl, bel_then HB2.out hw8⟩
  · go_enter Tryd.func12, Tryd.ntmps12
    go_wp2_with (first
      | (go_at_call 16; go_must ((refine (law_few r A0 A1 A2 n0 n1 n2 c0 c1 c2 _ (H0.out.below (by repeat (first | assumption | exact Below.refl _ _ | apply bel_alloc | apply bel_drew | apply bel_drewN | (refine bel_set ?_ (by first | assumption | omega | (simp; done) | (simp; omega)) _)))) E1.out E2.out).mono ?_; rintro e w1 ⟨rfl, hw1⟩; have CS : Blk w1 (w.heap.size + 1) 30 #[.int .i64 s.least, .int .i64 s.most, .slice B2 m2 d2, .slice B3 m3 d3] := (Blk.new_at _ _ _ _ (by simp)).below hw1; have CR : Blk w1 w.heap.size 26 #[.slice A0 n0 c0, .slice A1 n1 c1, .slice A2 n2 c2] := ((Blk.new _ _ _).alloc _).below hw1; have s0 := CS.cell 0; have s1 := CS.cell 1; have s2 := CS.cell 2; have s3 := CS.cell 3; have HCS := Lib.hid CS; have HCR := Lib.hid CR; clear CS CR; have hv1 : Below w.heap.size w w1 := bel_then (by repeat (first | assumption | exact Below.refl _ _ | apply bel_alloc | apply bel_drew | apply bel_drewN | (refine bel_set ?_ (by first | assumption | omega | (simp; done) | (simp; omega)) _))) hw1; have HB1 := Lib.hid hv1; clear hw1 hv1)))
      | (go_at_call 17; go_must ((refine (law_quick s B2 B3 m2 m3 d2 d3 _ F2.out F3.out).mono ?_; rintro e w2 ⟨rfl, hw2⟩; have CS := HCS.out.below hw2; have CR := HCR.out.below hw2; clear s0 s1 s2 s3; have s0 := CS.cell 0; have s1 := CS.cell 1; have s2 := CS.cell 2; have s3 := CS.cell 3; have r0 := CR.cell 0; have r1 := CR.cell 1; have r2 := CR.cell 2; have HCS := Lib.hid CS; have HCR := Lib.hid CR; clear CS CR; have HB2 := Lib.hid (bel_then HB1.out hw2); clear hw2)))
      | (go_at_call 30; go_must ((refine (law_some _ _ _ _).mono ?_; rintro e wz ⟨rfl, rfl⟩)))
      | (go_at_call 22; go_must ((refine (law_fine s r A0 A1 A2 B2 B3 n0 n1 n2 m2 m3 c0 c1 c2 d2 d3 _ (H0.out.below HB2.out) (H1.out.below HB2.out) (H2.out.below HB2.out) (G2.out.below HB2.out) (G3.out.below HB2.out)).mono ?_; rintro e w3 ⟨rfl, hw3⟩; have CS := HCS.out.below hw3; have CR := HCR.out.below hw3; (try clear s0 s1 s2 s3); (try clear r0 r1 r2); have s0 := CS.cell 0; have s1 := CS.cell 1; have s2 := CS.cell 2; have s3 := CS.cell 3; have r0 := CR.cell 0; have r1 := CR.cell 1; have r2 := CR.cell 2; have HCS := Lib.hid CS; have HCR := Lib.hid CR; clear CS CR; have HB3 := Lib.hid (bel_then HB2.out hw3); clear hw3)))
      | (go_at_call 32; go_must ((refine (ref3_Calls r l A0 A1 A2 C n0 n1 n2 c0 c1 c2 l.length c _ (H0.out.below HB3.out) (HC.out.below HB3.out) (bo_iff.1 hfi).1.fit).mono ?_; rintro e w4 ⟨rfl, hw4⟩; have CS := HCS.out.below hw4; have CR := HCR.out.below hw4; (try clear s0 s1 s2 s3); (try clear r0 r1 r2); have s0 := CS.cell 0; have s1 := CS.cell 1; have s2 := CS.cell 2; have s3 := CS.cell 3; have r0 := CR.cell 0; have r1 := CR.cell 1; have r2 := CR.cell 2; have HCS := Lib.hid CS; have HCR := Lib.hid CR; clear CS CR; have HB4 := Lib.hid (bel_then HB3.out hw4); clear hw4)))
      | (go_at_call 18; go_must (((first | refine (known_ _ (HT.out.below HB4.out)).mono ?_ | refine (known_ _ (HT.out.below HB3.out)).mono ?_ | refine (known_ _ (HT.out.below HB2.out)).mono ?_); rintro e w8 ⟨rfl, hw8⟩))))
    go_ret
    first | exact ⟨rfl, bel_then HB4.out hw8⟩ | exact ⟨rfl, bel_then HB3.out hw8⟩ | exact ⟨rfl, bel_then HB2.out hw8⟩
  · go_enter Tryd.func12, Tryd.ntmps12
    go_wp2_with (first
      | (go_at_call 16; go_must ((refine (law_few r A0 A1 A2 n0 n1 n2 c0 c1 c2 _ (H0.out.below (by repeat (first | assumption | exact Below.refl _ _ | apply bel_alloc | apply bel_drew | apply bel_drewN | (refine bel_set ?_ (by first | assumption | omega | (simp; done) | (simp; omega)) _)))) E1.out E2.out).mono ?_; rintro e w1 ⟨rfl, hw1⟩; have CS : Blk w1 (w.heap.size + 1) 30 #[.int .i64 s.least, .int .i64 s.most, .slice B2 m2 d2, .slice B3 m3 d3] := (Blk.new_at _ _ _ _ (by simp)).below hw1; have CR : Blk w1 w.heap.size 26 #[.slice A0 n0 c0, .slice A1 n1 c1, .slice A2 n2 c2] := ((Blk.new _ _ _).alloc _).below hw1; have s0 := CS.cell 0; have s1 := CS.cell 1; have s2 := CS.cell 2; have s3 := CS.cell 3; have HCS := Lib.hid CS; have HCR := Lib.hid CR; clear CS CR; have hv1 : Below w.heap.size w w1 := bel_then (by repeat (first | assumption | exact Below.refl _ _ | apply bel_alloc | apply bel_drew | apply bel_drewN | (refine bel_set ?_ (by first | assumption | omega | (simp; done) | (simp; omega)) _))) hw1; have HB1 := Lib.hid hv1; clear hw1 hv1)))
      | (go_at_call 17; go_must ((refine (law_quick s B2 B3 m2 m3 d2 d3 _ F2.out F3.out).mono ?_; rintro e w2 ⟨rfl, hw2⟩; have CS := HCS.out.below hw2; have CR := HCR.out.below hw2; clear s0 s1 s2 s3; have s0 := CS.cell 0; have s1 := CS.cell 1; have s2 := CS.cell 2; have s3 := CS.cell 3; have r0 := CR.cell 0; have r1 := CR.cell 1; have r2 := CR.cell 2; have HCS := Lib.hid CS; have HCR := Lib.hid CR; clear CS CR; have HB2 := Lib.hid (bel_then HB1.out hw2); clear hw2)))
      | (go_at_call 30; go_must ((refine (law_some _ _ _ _).mono ?_; rintro e wz ⟨rfl, rfl⟩)))
      | (go_at_call 22; go_must ((refine (law_fine s r A0 A1 A2 B2 B3 n0 n1 n2 m2 m3 c0 c1 c2 d2 d3 _ (H0.out.below HB2.out) (H1.out.below HB2.out) (H2.out.below HB2.out) (G2.out.below HB2.out) (G3.out.below HB2.out)).mono ?_; rintro e w3 ⟨rfl, hw3⟩; have CS := HCS.out.below hw3; have CR := HCR.out.below hw3; (try clear s0 s1 s2 s3); (try clear r0 r1 r2); have s0 := CS.cell 0; have s1 := CS.cell 1; have s2 := CS.cell 2; have s3 := CS.cell 3; have r0 := CR.cell 0; have r1 := CR.cell 1; have r2 := CR.cell 2; have HCS := Lib.hid CS; have HCR := Lib.hid CR; clear CS CR; have HB3 := Lib.hid (bel_then HB2.out hw3); clear hw3)))
      | (go_at_call 32; go_must ((refine (ref3_Calls r l A0 A1 A2 C n0 n1 n2 c0 c1 c2 l.length c _ (H0.out.below HB3.out) (HC.out.below HB3.out) (bo_iff.1 hfi).1.fit).mono ?_; rintro e w4 ⟨rfl, hw4⟩; have CS := HCS.out.below hw4; have CR := HCR.out.below hw4; (try clear s0 s1 s2 s3); (try clear r0 r1 r2); have s0 := CS.cell 0; have s1 := CS.cell 1; have s2 := CS.cell 2; have s3 := CS.cell 3; have r0 := CR.cell 0; have r1 := CR.cell 1; have r2 := CR.cell 2; have HCS := Lib.hid CS; have HCR := Lib.hid CR; clear CS CR; have HB4 := Lib.hid (bel_then HB3.out hw4); clear hw4)))
      | (go_at_call 18; go_must (((first | refine (known_ _ (HT.out.below HB4.out)).mono ?_ | refine (known_ _ (HT.out.below HB3.out)).mono ?_ | refine (known_ _ (HT.out.below HB2.out)).mono ?_); rintro e w8 ⟨rfl, hw8⟩))))
    go_ret
    first | exact ⟨rfl, bel_then HB4.out hw8⟩ | exact ⟨rfl, bel_then HB3.out hw8⟩ | exact ⟨rfl, bel_then HB2.out hw8⟩
  · go_enter Tryd.func12, Tryd.ntmps12
    go_wp2_with (first
      | (go_at_call 16; go_must ((refine (law_few r A0 A1 A2 n0 n1 n2 c0 c1 c2 _ (H0.out.below (by repeat (first | assumption | exact Below.refl _ _ | apply bel_alloc | apply bel_drew | apply bel_drewN | (refine bel_set ?_ (by first | assumption | omega | (simp; done) | (simp; omega)) _)))) E1.out E2.out).mono ?_; rintro e w1 ⟨rfl, hw1⟩; have CS : Blk w1 (w.heap.size + 1) 30 #[.int .i64 s.least, .int .i64 s.most, .slice B2 m2 d2, .slice B3 m3 d3] := (Blk.new_at _ _ _ _ (by simp)).below hw1; have CR : Blk w1 w.heap.size 26 #[.slice A0 n0 c0, .slice A1 n1 c1, .slice A2 n2 c2] := ((Blk.new _ _ _).alloc _).below hw1; have s0 := CS.cell 0; have s1 := CS.cell 1; have s2 := CS.cell 2; have s3 := CS.cell 3; have HCS := Lib.hid CS; have HCR := Lib.hid CR; clear CS CR; have hv1 : Below w.heap.size w w1 := bel_then (by repeat (first | assumption | exact Below.refl _ _ | apply bel_alloc | apply bel_drew | apply bel_drewN | (refine bel_set ?_ (by first | assumption | omega | (simp; done) | (simp; omega)) _))) hw1; have HB1 := Lib.hid hv1; clear hw1 hv1)))
      | (go_at_call 17; go_must ((refine (law_quick s B2 B3 m2 m3 d2 d3 _ F2.out F3.out).mono ?_; rintro e w2 ⟨rfl, hw2⟩; have CS := HCS.out.below hw2; have CR := HCR.out.below hw2; clear s0 s1 s2 s3; have s0 := CS.cell 0; have s1 := CS.cell 1; have s2 := CS.cell 2; have s3 := CS.cell 3; have r0 := CR.cell 0; have r1 := CR.cell 1; have r2 := CR.cell 2; have HCS := Lib.hid CS; have HCR := Lib.hid CR; clear CS CR; have HB2 := Lib.hid (bel_then HB1.out hw2); clear hw2)))
      | (go_at_call 30; go_must ((refine (law_some _ _ _ _).mono ?_; rintro e wz ⟨rfl, rfl⟩)))
      | (go_at_call 22; go_must ((refine (law_fine s r A0 A1 A2 B2 B3 n0 n1 n2 m2 m3 c0 c1 c2 d2 d3 _ (H0.out.below HB2.out) (H1.out.below HB2.out) (H2.out.below HB2.out) (G2.out.below HB2.out) (G3.out.below HB2.out)).mono ?_; rintro e w3 ⟨rfl, hw3⟩; have CS := HCS.out.below hw3; have CR := HCR.out.below hw3; (try clear s0 s1 s2 s3); (try clear r0 r1 r2); have s0 := CS.cell 0; have s1 := CS.cell 1; have s2 := CS.cell 2; have s3 := CS.cell 3; have r0 := CR.cell 0; have r1 := CR.cell 1; have r2 := CR.cell 2; have HCS := Lib.hid CS; have HCR := Lib.hid CR; clear CS CR; have HB3 := Lib.hid (bel_then HB2.out hw3); clear hw3)))
      | (go_at_call 32; go_must ((refine (ref3_Calls r l A0 A1 A2 C n0 n1 n2 c0 c1 c2 l.length c _ (H0.out.below HB3.out) (HC.out.below HB3.out) (bo_iff.1 hfi).1.fit).mono ?_; rintro e w4 ⟨rfl, hw4⟩; have CS := HCS.out.below hw4; have CR := HCR.out.below hw4; (try clear s0 s1 s2 s3); (try clear r0 r1 r2); have s0 := CS.cell 0; have s1 := CS.cell 1; have s2 := CS.cell 2; have s3 := CS.cell 3; have r0 := CR.cell 0; have r1 := CR.cell 1; have r2 := CR.cell 2; have HCS := Lib.hid CS; have HCR := Lib.hid CR; clear CS CR; have HB4 := Lib.hid (bel_then HB3.out hw4); clear hw4)))
      | (go_at_call 18; go_must (((first | refine (known_ _ (HT.out.below HB4.out)).mono ?_ | refine (known_ _ (HT.out.below HB3.out)).mono ?_ | refine (known_ _ (HT.out.below HB2.out)).mono ?_); rintro e w8 ⟨rfl, hw8⟩))))
    go_ret
    first | exact ⟨rfl, bel_then HB4.out hw8⟩ | exact ⟨rfl, bel_then HB3.out hw8⟩ | exact ⟨rfl, bel_then HB2.out hw8⟩
  · go_enter Tryd.func12, Tryd.ntmps12
    go_wp2_with (first
      | (go_at_call 16; go_must ((refine (law_few r A0 A1 A2 n0 n1 n2 c0 c1 c2 _ (H0.out.below (by repeat (first | assumption | exact Below.refl _ _ | apply bel_alloc | apply bel_drew | apply bel_drewN | (refine bel_set ?_ (by first | assumption | omega | (simp; done) | (simp; omega)) _)))) E1.out E2.out).mono ?_; rintro e w1 ⟨rfl, hw1⟩; have CS : Blk w1 (w.heap.size + 1) 30 #[.int .i64 s.least, .int .i64 s.most, .slice B2 m2 d2, .slice B3 m3 d3] := (Blk.new_at _ _ _ _ (by simp)).below hw1; have CR : Blk w1 w.heap.size 26 #[.slice A0 n0 c0, .slice A1 n1 c1, .slice A2 n2 c2] := ((Blk.new _ _ _).alloc _).below hw1; have s0 := CS.cell 0; have s1 := CS.cell 1; have s2 := CS.cell 2; have s3 := CS.cell 3; have HCS := Lib.hid CS; have HCR := Lib.hid CR; clear CS CR; have hv1 : Below w.heap.size w w1 := bel_then (by repeat (first | assumption | exact Below.refl _ _ | apply bel_alloc | apply bel_drew | apply bel_drewN | (refine bel_set ?_ (by first | assumption | omega | (simp; done) | (simp; omega)) _))) hw1; have HB1 := Lib.hid hv1; clear hw1 hv1)))
      | (go_at_call 17; go_must ((refine (law_quick s B2 B3 m2 m3 d2 d3 _ F2.out F3.out).mono ?_; rintro e w2 ⟨rfl, hw2⟩; have CS := HCS.out.below hw2; have CR := HCR.out.below hw2; clear s0 s1 s2 s3; have s0 := CS.cell 0; have s1 := CS.cell 1; have s2 := CS.cell 2; have s3 := CS.cell 3; have r0 := CR.cell 0; have r1 := CR.cell 1; have r2 := CR.cell 2; have HCS := Lib.hid CS; have HCR := Lib.hid CR; clear CS CR; have HB2 := Lib.hid (bel_then HB1.out hw2); clear hw2)))
      | (go_at_call 30; go_must ((refine (law_some _ _ _ _).mono ?_; rintro e wz ⟨rfl, rfl⟩)))
      | (go_at_call 22; go_must ((refine (law_fine s r A0 A1 A2 B2 B3 n0 n1 n2 m2 m3 c0 c1 c2 d2 d3 _ (H0.out.below HB2.out) (H1.out.below HB2.out) (H2.out.below HB2.out) (G2.out.below HB2.out) (G3.out.below HB2.out)).mono ?_; rintro e w3 ⟨rfl, hw3⟩; have CS := HCS.out.below hw3; have CR := HCR.out.below hw3; (try clear s0 s1 s2 s3); (try clear r0 r1 r2); have s0 := CS.cell 0; have s1 := CS.cell 1; have s2 := CS.cell 2; have s3 := CS.cell 3; have r0 := CR.cell 0; have r1 := CR.cell 1; have r2 := CR.cell 2; have HCS := Lib.hid CS; have HCR := Lib.hid CR; clear CS CR; have HB3 := Lib.hid (bel_then HB2.out hw3); clear hw3)))
      | (go_at_call 32; go_must ((refine (ref3_Calls r l A0 A1 A2 C n0 n1 n2 c0 c1 c2 l.length c _ (H0.out.below HB3.out) (HC.out.below HB3.out) (bo_iff.1 hfi).1.fit).mono ?_; rintro e w4 ⟨rfl, hw4⟩; have CS := HCS.out.below hw4; have CR := HCR.out.below hw4; (try clear s0 s1 s2 s3); (try clear r0 r1 r2); have s0 := CS.cell 0; have s1 := CS.cell 1; have s2 := CS.cell 2; have s3 := CS.cell 3; have r0 := CR.cell 0; have r1 := CR.cell 1; have r2 := CR.cell 2; have HCS := Lib.hid CS; have HCR := Lib.hid CR; clear CS CR; have HB4 := Lib.hid (bel_then HB3.out hw4); clear hw4)))
      | (go_at_call 18; go_must (((first | refine (known_ _ (HT.out.below HB4.out)).mono ?_ | refine (known_ _ (HT.out.below HB3.out)).mono ?_ | refine (known_ _ (HT.out.below HB2.out)).mono ?_); rintro e w8 ⟨rfl, hw8⟩))))
    go_ret
    first | exact ⟨rfl, bel_then HB4.out hw8⟩ | exact ⟨rfl, bel_then HB3.out hw8⟩ | exact ⟨rfl, bel_then HB2.out hw8⟩
  have HR : Hid r.Valid := Lib.hid (bo_iff.1 hfi).1
  have HS : Hid s.Valid := Lib.hid (bo_iff.1 hfi).2
  have HO : Hid (CallsOk r.length l) := Lib.hid (bo_iff.1 hco)
  have hn3 := HO.out.1
  have hr0 : 0 ≤ r.length := (HR.out.fit.2 _ (Nat.le_refl _)).1
  have hr1 := HR.out.short
  obtain ⟨N, hN⟩ : ∃ N : Nat, (N : Int) = r.length := ⟨r.length.toNat, by omega⟩
  go_enter Tryd.func12, Tryd.ntmps12
  go_wp2_with (first
    | (go_at_call 16; go_must ((refine (law_few r A0 A1 A2 n0 n1 n2 c0 c1 c2 _ (H0.out.below (by repeat (first | assumption | exact Below.refl _ _ | apply bel_alloc | apply bel_drew | apply bel_drewN | (refine bel_set ?_ (by first | assumption | omega | (simp; done) | (simp; omega)) _)))) E1.out E2.out).mono ?_; rintro e w1 ⟨rfl, hw1⟩; have CS : Blk w1 (w.heap.size + 1) 30 #[.int .i64 s.least, .int .i64 s.most, .slice B2 m2 d2, .slice B3 m3 d3] := (Blk.new_at _ _ _ _ (by simp)).below hw1; have CR : Blk w1 w.heap.size 26 #[.slice A0 n0 c0, .slice A1 n1 c1, .slice A2 n2 c2] := ((Blk.new _ _ _).alloc _).below hw1; have s0 := CS.cell 0; have s1 := CS.cell 1; have s2 := CS.cell 2; have s3 := CS.cell 3; have HCS := Lib.hid CS; have HCR := Lib.hid CR; clear CS CR; have hv1 : Below w.heap.size w w1 := bel_then (by repeat (first | assumption | exact Below.refl _ _ | apply bel_alloc | apply bel_drew | apply bel_drewN | (refine bel_set ?_ (by first | assumption | omega | (simp; done) | (simp; omega)) _))) hw1; have HB1 := Lib.hid hv1; clear hw1 hv1)))
    | (go_at_call 17; go_must ((refine (law_quick s B2 B3 m2 m3 d2 d3 _ F2.out F3.out).mono ?_; rintro e w2 ⟨rfl, hw2⟩; have CS := HCS.out.below hw2; have CR := HCR.out.below hw2; clear s0 s1 s2 s3; have s0 := CS.cell 0; have s1 := CS.cell 1; have s2 := CS.cell 2; have s3 := CS.cell 3; have r0 := CR.cell 0; have r1 := CR.cell 1; have r2 := CR.cell 2; have HCS := Lib.hid CS; have HCR := Lib.hid CR; clear CS CR; have HB2 := Lib.hid (bel_then HB1.out hw2); clear hw2)))
    | (go_at_call 30; go_must ((refine (law_some _ _ _ _).mono ?_; rintro e wz ⟨rfl, rfl⟩)))
    | (go_at_call 22; go_must ((refine (law_fine s r A0 A1 A2 B2 B3 n0 n1 n2 m2 m3 c0 c1 c2 d2 d3 _ (H0.out.below HB2.out) (H1.out.below HB2.out) (H2.out.below HB2.out) (G2.out.below HB2.out) (G3.out.below HB2.out)).mono ?_; rintro e w3 ⟨rfl, hw3⟩; have CS := HCS.out.below hw3; have CR := HCR.out.below hw3; (try clear s0 s1 s2 s3); (try clear r0 r1 r2); have s0 := CS.cell 0; have s1 := CS.cell 1; have s2 := CS.cell 2; have s3 := CS.cell 3; have r0 := CR.cell 0; have r1 := CR.cell 1; have r2 := CR.cell 2; have HCS := Lib.hid CS; have HCR := Lib.hid CR; clear CS CR; have HB3 := Lib.hid (bel_then HB2.out hw3); clear hw3)))
    | (go_at_call 32; go_must ((refine (ref3_Calls r l A0 A1 A2 C n0 n1 n2 c0 c1 c2 l.length c _ (H0.out.below HB3.out) (HC.out.below HB3.out) (bo_iff.1 hfi).1.fit).mono ?_; rintro e w4 ⟨rfl, hw4⟩; have CS := HCS.out.below hw4; have CR := HCR.out.below hw4; (try clear s0 s1 s2 s3); (try clear r0 r1 r2); have s0 := CS.cell 0; have s1 := CS.cell 1; have s2 := CS.cell 2; have s3 := CS.cell 3; have r0 := CR.cell 0; have r1 := CR.cell 1; have r2 := CR.cell 2; have HCS := Lib.hid CS; have HCR := Lib.hid CR; clear CS CR; have HB4 := Lib.hid (bel_then HB3.out hw4); clear hw4))))
  go_at_call 31
  refine (pace_Plan_yes s r l A0 A1 A2 B2 B3 C n0 n1 n2 m2 m3 c0 c1 c2 d2 d3 l.length c _ (H0.out.below HB4.out) (H1.out.below HB4.out) (H2.out.below HB4.out) (G2.out.below HB4.out) (G3.out.below HB4.out) (HC.out.below HB4.out) HR.out HS.out HO.out).mono ?_
  intro e w7 hpost
  obtain ⟨hw7, Ap, kp, cp, ca, cb, ct, er, rfl, hkp, hsay⟩ := hpost.says
  clear hpost
  have CS := HCS.out.below hw7; have CR := HCR.out.below hw7; (try clear s0 s1 s2 s3); (try clear r0 r1 r2); have s0 := CS.cell 0; have s1 := CS.cell 1; have s2 := CS.cell 2; have s3 := CS.cell 3; have r0 := CR.cell 0; have r1 := CR.cell 1; have r2 := CR.cell 2; have HCS := Lib.hid CS; have HCR := Lib.hid CR; clear CS CR
  have HB7 := Lib.hid (bel_then HB4.out hw7)
  clear hw7
  have lr := HCR.out.lt
  have ls := HCS.out.lt
  have HP : Hid (∃ pl, ChosePlan s r l w7 Ap kp er pl) := Lib.hid (by
    rcases hsay.err with rfl | ⟨rfl, rfl, rfl, rfl, rfl, gs, hi, hg, he, hrd⟩
    · exact ⟨[], fun h => by cases h⟩
    · exact ⟨gs, fun _ => ⟨rfl, hrd, plan_trigs HS.out HR.out HO.out hi hg, plan_good HS.out HR.out HO.out hi hg he⟩⟩)
  clear hsay
  obtain ⟨T, hto⟩ : ∃ T, bo (TrigsOk r.length l.length ts) = T := ⟨_, rfl⟩
  have HTo := Lib.hid hto
  clear hto
  go_upto_if 74 with (go_at_call 39; go_must ((refine (ref3_Triggers r ts A0 A1 A2 C D n0 n1 n2 c0 c1 c2 l.length c ts.length d _ (H0.out.below (bel_alloc HB7.out _)) (HD.out.below (bel_alloc HB7.out _)) HR.out.fit).mono ?_; rw [HTo.out]; rintro e9 w8 ⟨rfl, hw8⟩; have CS := (HCS.out.alloc (.cells #[.int .i64 ca, .int .i64 cb, .bool ct] 58)).below hw8; have CR := (HCR.out.alloc (.cells #[.int .i64 ca, .int .i64 cb, .bool ct] 58)).below hw8; (try clear s0 s1 s2 s3); (try clear r0 r1 r2); have s0 := CS.cell 0; have s1 := CS.cell 1; have s2 := CS.cell 2; have s3 := CS.cell 3; have r0 := CR.cell 0; have r1 := CR.cell 1; have r2 := CR.cell 2; have HCS8 := Lib.hid CS; have HCR8 := Lib.hid CR; clear CS CR; have HB8 := Lib.hid (bel_then (bel_alloc HB7.out _) hw8); have HX8 : Hid (Below w7.heap.size w7 w8) := Lib.hid (bel_then (bel_alloc (Below.refl _ _) _) hw8); clear hw8)))
  go_cut [11, 13] from 75 (fun v11 v13 wc => ∃ (Ax : Option Addr) (kx cx : Nat) (er' : Int) (pl : List Int), v11 = .slice Ax kx cx ∧ v13 = .int .i64 er' ∧ Hid (ChosePlan s r l wc Ax kx er' pl) ∧ Hid (Below w8.heap.size w8 wc))
  case first =>
    rcases T with _ | _
    · obtain ⟨pl, hpl⟩ := HP.out
      have HPL := Lib.hid hpl
      clear hpl
      go_wp2
      go_meet
      case rel => exact ⟨Ap, kp, cp, er, pl, rfl, rfl, Lib.hid (fun h => ⟨(HPL.out h).1, (HPL.out h).2.1.below HX8.out, (HPL.out h).2.2⟩), Lib.hid (Below.refl _ _)⟩
    · obtain ⟨V, hV⟩ : ∃ V, bo (GoodPlan (sumsOf s r) l ts) = V := ⟨_, rfl⟩
      have HV := Lib.hid hV
      clear hV
      have HTs : Hid (TrigsOk r.length l.length ts) := Lib.hid (bo_iff.1 HTo.out)
      obtain ⟨pl, hpl⟩ := HP.out
      have HPL := Lib.hid hpl
      clear hpl
      rcases V with _ | _
      · go_wp2_with (go_at_call 38; go_must ((refine (pace_Good_yes s r l ts A0 A1 A2 B2 B3 C D n0 n1 n2 m2 m3 c0 c1 c2 d2 d3 l.length c ts.length d _ (H0.out.below HB8.out) (H1.out.below HB8.out) (H2.out.below HB8.out) (G2.out.below HB8.out) (G3.out.below HB8.out) (HC.out.below HB8.out) (HD.out.below HB8.out) HR.out HS.out HO.out HTs.out).mono ?_; rw [HV.out]; rintro e10 w9 ⟨rfl, hw9⟩; have HB9 := Lib.hid hw9; clear hw9)))
        go_meet
        case rel => exact ⟨Ap, kp, cp, er, pl, rfl, rfl, Lib.hid (fun h => ⟨(HPL.out h).1, ((HPL.out h).2.1.below HX8.out).below HB9.out, (HPL.out h).2.2⟩), HB9⟩
      · go_wp2_with (go_at_call 38; go_must ((refine (pace_Good_yes s r l ts A0 A1 A2 B2 B3 C D n0 n1 n2 m2 m3 c0 c1 c2 d2 d3 l.length c ts.length d _ (H0.out.below HB8.out) (H1.out.below HB8.out) (H2.out.below HB8.out) (G2.out.below HB8.out) (G3.out.below HB8.out) (HC.out.below HB8.out) (HD.out.below HB8.out) HR.out HS.out HO.out HTs.out).mono ?_; rw [HV.out]; rintro e10 w9 ⟨rfl, hw9⟩; have HB9 := Lib.hid hw9; clear hw9)))
        go_meet
        case rel => exact ⟨D, ts.length, d, 0, ts, rfl, rfl, Lib.hid (fun h => ⟨HTs.out.1, (HD.out.below HB8.out).below HB9.out, HTs.out, bo_iff.1 HV.out⟩), HB9⟩
  case rest =>
    obtain ⟨Ax, kx, cx, er', pl, rfl, rfl, HPL, HBc⟩ := hcut
    have HB9 := Lib.hid (bel_then HB8.out HBc.out)
    have HCS9 := Lib.hid (HCS8.out.below HBc.out)
    have HCR9 := Lib.hid (HCR8.out.below HBc.out)
    clear s0 s1 s2 s3 r0 r1 r2 HP
    have s0 := HCS9.out.cell 0
    have s1 := HCS9.out.cell 1
    have s2 := HCS9.out.cell 2
    have s3 := HCS9.out.cell 3
    have r0 := HCR9.out.cell 0
    have r1 := HCR9.out.cell 1
    have r2 := HCR9.out.cell 2
    by_cases he : er' = 0
    rotate_left
    · have hne : (er' != 0) = true := by simpa using he
      clear he
      go_wp2_with (go_at_call 18; go_must ((refine (known_ _ (HT.out.below HB9.out)).mono ?_; rintro e w10 ⟨rfl, hw10⟩)))
      go_ret
      exact ⟨rfl, bel_then HB9.out hw10⟩
    subst he
    obtain ⟨hkx, hrx, htx, hgx⟩ := HPL.out rfl
    subst hkx
    have HRX := Lib.hid hrx
    have HTX := Lib.hid htx
    have HGX := Lib.hid hgx
    clear hrx htx hgx HPL
    have hmk0 : ∀ W : World, (Instr.makeSlice 28 (.int .i64 ((N : Int) + 1)) (.int .i64 ((N : Int) + 1))).run Tryd.prog W = .ok (.slice (some ⟨W.heap.size, 0, none⟩) (N + 1) (N + 1)) (W.alloc (.cells (madeCells #[.int .i64 0] ((N + 1) * 1)) 3)) := fun W => by
      obtain ⟨i0, hi, hzz⟩ := Option.map_eq_some_iff.1 info_int
      simp only [Prod.mk.injEq] at hzz
      obtain ⟨hz0, hz1, hz2⟩ := hzz
      have h := run_make (P := Tryd.prog) W 28 3 i0 _ Tryd.underlying28 hi hz0 .i64 .i64 ((N : Int) + 1) ((N : Int) + 1) (by omega) (by omega) (by rw [hz2]; omega) (by omega)
      rw [hz1, show ((N : Int) + 1).toNat = N + 1 by omega] at h
      exact h
    obtain ⟨mc, hmc⟩ : ∃ mc, madeCells #[Value.int .i64 0] ((N + 1) * 1) = mc := ⟨_, rfl⟩
    have HMC : Hid (mc.size = (N + 1) * 1 ∧ mc.toList = flat intEnc (shareFill s r sh (N + 1) 1)) := Lib.hid (by
      rw [← hmc]
      refine ⟨size_madeCells _ _, ?_⟩
      rw [toList_madeCells_one, shareFill_one, Nat.mul_one]
      generalize N + 1 = m
      induction m with
      | zero => rfl
      | succ m ih => rw [List.replicate_succ, List.replicate_succ, flat_cons, ← ih]; rfl)
    simp only [hmc] at hmk0
    have hwr : IntKind.i64.wrap ((N : Int) + 1) = (N : Int) + 1 := IntWalk.i64_in _ (by omega)
    have HNN := Lib.hid hN
    have hN9 : (N : Int) ≤ 100000 := by omega
    clear hmc hr0 hr1 hN
    go_wp2_with (go_at_call 23; go_must ((refine (ref3_Length r A0 A1 A2 n0 n1 n2 c0 c1 c2 _ (H0.out.below HB9.out) HR.out.fit).mono ?_; rintro e10 w10 ⟨rfl, hw10⟩; rw [← HNN.out]; have HB10 := Lib.hid (bel_then HB9.out hw10); have HX10 := Lib.hid hw10; have HCS10 := Lib.hid (HCS9.out.below hw10); have HCR10 := Lib.hid (HCR9.out.below hw10); clear hw10)))
    clear s0 s1 s2 s3 r0 r1 r2 hmk0 hwr
    go_loopw [17] (fun v17 wr => ∃ k : Nat, k ≤ N ∧ v17 = .int .i64 ((k : Int) + 1) ∧ Hid (Own 1 intEnc 3 wr w10.heap.size (.slice (some ⟨w10.heap.size, 0, none⟩) (N + 1) (N + 1)) (shareFill s r sh (N + 1) (k + 1))) ∧ Hid (Below w10.heap.size w10 wr)) (fun v17 _ => N + 1 - (intOf v17).toNat)
    case atStart => exact ⟨0, Nat.zero_le _, rfl, Lib.hid (by
      have := World.ownsRow_lit (base := w10.heap.size) (e := 3) (size := 1) w10 mc (N + 1) (Nat.le_refl _) (by unfold maxLen; omega) HMC.out.1
      rw [HMC.out.2] at this
      unfold Own
      rw [shareFill_len]
      exact this), Lib.hid (by repeat (first | assumption | exact Below.refl _ _ | apply bel_alloc | apply bel_drew | apply bel_drewN | (refine bel_set ?_ (by first | assumption | omega | (simp; done) | (simp; omega)) _)))⟩
    case round =>
      obtain ⟨k, hk, rfl, HOk, HBk⟩ := hrel
      have HCSk := Lib.hid (HCS10.out.below HBk.out)
      have HCRk := Lib.hid (HCR10.out.below HBk.out)
      have HBw := Lib.hid (bel_then HB10.out HBk.out)
      have s0 := HCSk.out.cell 0
      have s1 := HCSk.out.cell 1
      have s2 := HCSk.out.cell 2
      have s3 := HCSk.out.cell 3
      have r0 := HCRk.out.cell 0
      have r1 := HCRk.out.cell 1
      have r2 := HCRk.out.cell 2
      by_cases hlt : k < N
      · have hone := btw_one HS.out HR.out (k := k) (by have := HNN.out; omega)
        have hat := shareAt_bound HS.out HR.out sh k (by have := HNN.out; omega)
        rw [show ((k + 1 : Nat) : Int) = (k : Int) + 1 by omega] at hone
        obtain ⟨am, ham⟩ : ∃ am, btwL s r (k : Int) ((k : Int) + 1) = am := ⟨_, rfl⟩
        obtain ⟨bm, hbm⟩ : ∃ bm, btwM s r (k : Int) ((k : Int) + 1) = bm := ⟨_, rfl⟩
        obtain ⟨xv, hxv⟩ : ∃ xv, shareAt s r sh k = xv := ⟨_, rfl⟩
        rw [ham, hbm] at hone
        rw [hxv] at hat
        obtain ⟨o1, o2, o3⟩ := hone
        obtain ⟨o4, o5⟩ := hat
        have hsuc : shareAt s r sh (k + 1) = xv + (am + (bm - am) * share sh k / 100) := by
          show shareAt s r sh k + (btwL s r (k : Int) ((k : Int) + 1) + (btwM s r (k : Int) ((k : Int) + 1) - btwL s r (k : Int) ((k : Int) + 1)) * share sh k / 100) = _
          rw [ham, hbm, hxv]
        have HSU := Lib.hid hsuc
        have HAM := Lib.hid ham
        have HBM := Lib.hid hbm
        have HXV := Lib.hid hxv
        have HBTW : Hid (BtwOk s r (k : Int) ((k : Int) + 1)) := Lib.hid ⟨HR.out, HS.out, by omega, by omega, by have := HNN.out; omega⟩
        have hsb := share_bound sh k
        have hN9' : (k : Int) ≤ 100000 := by omega
        clear ham hbm hxv hsuc
        by_cases hks : k < sh.length
        · obtain ⟨x, hx⟩ := HE.out.get hks
          have HX := Lib.hid hx
          have hsx : share sh k = min 100 (max 0 x) := by unfold share; rw [hx]
          rw [hsx] at hsb
          obtain ⟨shv, hshv⟩ : ∃ shv, min 100 (max 0 x) = shv := ⟨_, rfl⟩
          have HSX : Hid (share sh k = shv) := Lib.hid (by rw [hsx, hshv])
          rw [hshv] at hsb
          obtain ⟨b1, b2⟩ := hsb
          have p1 : 0 ≤ (bm - am) * shv := Int.mul_nonneg (by omega) b1
          have p2 : (bm - am) * shv ≤ 1000000000 := Int.le_trans (Int.mul_le_mul_of_nonneg_left b2 (by omega)) (by omega)
          clear hx hsx
          go_wp2_with (go_at_call 19; go_must ((refine (pace_Between_yes s r A0 A1 A2 B2 B3 n0 n1 n2 m2 m3 c0 c1 c2 d2 d3 (k : Int) ((k : Int) + 1) _ (H0.out.below HBw.out) (H1.out.below HBw.out) (H2.out.below HBw.out) (G2.out.below HBw.out) (G3.out.below HBw.out) HBTW.out).mono ?_; rintro e11 w11 ⟨rfl, hw11⟩; rw [HAM.out, HBM.out]; have HO11 := Lib.hid (HOk.out.below hw11); have HB11 := Lib.hid (bel_then HBk.out hw11); obtain ⟨ad, e12, x0⟩ := ((HE.out.below HBw.out).below hw11).at1 HX.out; cases e12; have hcell := HO11.out.cellAt intEnc_len (i := k) (x := shareAt s r sh k) (j := 0) (u := shareAt s r sh k) (by rw [shareFill_get sh (by omega), if_pos (by omega)]) rfl; rw [Nat.mul_one, Nat.add_zero, HXV.out] at hcell; have hcell1 := HO11.out.cellAt intEnc_len (i := k + 1) (x := 0) (j := 0) (u := 0) (by rw [shareFill_get sh (by omega), if_neg (by omega)]) rfl; rw [Nat.mul_one, Nat.add_zero] at hcell1; have hfree := HO11.out.free (by rw [shareFill_len]) (k + 1); have hbl := HO11.out.blk_lt.2; clear hw11)))
          go_roundw
          case rel => exact ⟨k + 1, by omega, by first | go_num | (congr 1; omega), Lib.hid (by
            have := HO11.out.set intEnc_len (by rw [shareFill_len]) (i := k + 1) (x := 0) (y := xv + am + (bm - am) * shv / 100) (j := 0) (u := xv + am + (bm - am) * shv / 100) (by rw [shareFill_get sh (by omega), if_neg (by omega)]) (by omega) rfl
            rw [Nat.mul_one, Nat.add_zero, show xv + am + (bm - am) * shv / 100 = shareAt s r sh (k + 1) by rw [HSU.out, HSX.out]; omega, shareFill_set sh (by omega)] at this
            rw [show xv + am + (bm - am) * shv / 100 = shareAt s r sh (k + 1) by rw [HSU.out, HSX.out]; omega]
            exact this), Lib.hid (bel_set HB11.out (Nat.le_refl _) _)⟩
          case measure => simp [intOf]; omega
        · have hsx : share sh k = 0 := by unfold share; rw [List.getElem?_eq_none (by omega)]
          have HSX := Lib.hid hsx
          clear hsx hsb
          go_wp2_with (go_at_call 19; go_must ((refine (pace_Between_yes s r A0 A1 A2 B2 B3 n0 n1 n2 m2 m3 c0 c1 c2 d2 d3 (k : Int) ((k : Int) + 1) _ (H0.out.below HBw.out) (H1.out.below HBw.out) (H2.out.below HBw.out) (G2.out.below HBw.out) (G3.out.below HBw.out) HBTW.out).mono ?_; rintro e11 w11 ⟨rfl, hw11⟩; rw [HAM.out, HBM.out]; have HO11 := Lib.hid (HOk.out.below hw11); have HB11 := Lib.hid (bel_then HBk.out hw11); have hcell := HO11.out.cellAt intEnc_len (i := k) (x := shareAt s r sh k) (j := 0) (u := shareAt s r sh k) (by rw [shareFill_get sh (by omega), if_pos (by omega)]) rfl; rw [Nat.mul_one, Nat.add_zero, HXV.out] at hcell; have hcell1 := HO11.out.cellAt intEnc_len (i := k + 1) (x := 0) (j := 0) (u := 0) (by rw [shareFill_get sh (by omega), if_neg (by omega)]) rfl; rw [Nat.mul_one, Nat.add_zero] at hcell1; have hfree := HO11.out.free (by rw [shareFill_len]) (k + 1); have hbl := HO11.out.blk_lt.2; clear hw11)))
          go_roundw
          case rel => exact ⟨k + 1, by omega, by first | go_num | (congr 1; omega), Lib.hid (by
            have := HO11.out.set intEnc_len (by rw [shareFill_len]) (i := k + 1) (x := 0) (y := xv + am) (j := 0) (u := xv + am) (by rw [shareFill_get sh (by omega), if_neg (by omega)]) (by omega) rfl
            rw [Nat.mul_one, Nat.add_zero, show xv + am = shareAt s r sh (k + 1) by rw [HSU.out, HSX.out]; omega, shareFill_set sh (by omega)] at this
            rw [show xv + am = shareAt s r sh (k + 1) by rw [HSU.out, HSX.out]; omega]
            exact this), Lib.hid (bel_set HB11.out (Nat.le_refl _) _)⟩
          case measure => simp [intOf]; omega
      · obtain rfl : k = N := by omega
        have hall := HOk.out.rd intEnc_len
        rw [shareFill_all] at hall
        obtain ⟨run, hrun⟩ : ∃ run, shareRun s r sh (k + 1) = run := ⟨_, rfl⟩
        rw [hrun] at hall
        have HFR : Hid (FitsRun (sumsOf s r) [] run) := Lib.hid (by rw [← hrun]; exact shareRun_fits HS.out HR.out sh (by have := HNN.out; omega))
        have HRO : Hid (RunOk r.length run) := Lib.hid (by rw [← hrun]; exact shareRun_ok HS.out HR.out sh (by have := HNN.out; omega))
        have HRP : Hid (∀ j, 0 ≤ runAt run j) := Lib.hid (by rw [← hrun]; exact shareRun_pos HS.out HR.out sh (by have := HNN.out; omega))
        have HRL : Hid (run.length = k + 1) := Lib.hid (by rw [← hrun]; exact shareRun_len _ _)
        have HRI : Hid (I64s run) := Lib.hid (fun z hz => by
          obtain ⟨i, hi⟩ := List.getElem?_of_mem hz
          have := HRO.out.at_ hi
          omega)
        have HRun := Lib.hid hall
        clear hall hrun
        obtain ⟨wq, hwq⟩ : ∃ wq : World, wq = wr := ⟨_, rfl⟩
        subst hwq
        have hft : bo (FitsRun (sumsOf s r) [] run) = true := bo_true HFR.out
        have HFT := Lib.hid hft
        have HRT : Hid (bo (TrigsOk r.length l.length pl) = true) := Lib.hid (bo_true HTX.out)
        have HSO : Hid (SaidOk r l pl run) := Lib.hid ⟨HR.out, HO.out, HTX.out, HRO.out⟩
        clear hft
        go_wp2_with (first
          | (go_at_call 35; go_must ((refine (pace_Fits_yes s r [] run A0 A1 A2 B2 B3 none _ n0 n1 n2 m2 m3 c0 c1 c2 d2 d3 0 0 _ _ _ (H0.out.below HBw.out) (H1.out.below HBw.out) (H2.out.below HBw.out) (G2.out.below HBw.out) (G3.out.below HBw.out) Rd.nil HRun.out HR.out HS.out ⟨by simp, fun j hj => absurd hj (by simp)⟩ (by have := HRL.out; have := HNN.out; omega) HRI.out).mono ?_; rw [HFT.out]; rintro e11 w11 ⟨rfl, hw11⟩; have HB11 := Lib.hid (bel_then HBw.out hw11); have HX11 := Lib.hid hw11; have CR := HCRk.out.below hw11; (clear r0 r1 r2); have r0 := CR.cell 0; have r1 := CR.cell 1; have r2 := CR.cell 2; have HCR11 := Lib.hid CR; clear CR hw11)))
          | (go_at_call 41; go_must ((refine (pace_Said r l pl run A0 A1 A2 C Ax _ n0 n1 n2 c0 c1 c2 l.length c l.length cx _ _ _ (H0.out.below HB11.out) (H1.out.below HB11.out) (H2.out.below HB11.out) (HC.out.below HB11.out) (((HRX.out.below HX10.out).below HBk.out).below HX11.out) (HRun.out.below HX11.out)).mono ?_; intro e12 w12 hpost; obtain ⟨As, ks, rfl, hsd, hw12⟩ := hpost.yes HSO.out; clear hpost; have HSd := Lib.hid hsd; have HB12 := Lib.hid (bel_then HB11.out hw12); have HX12 := Lib.hid (bel_then HX11.out hw12); have CR := HCR11.out.below hw12; (clear r0 r1 r2); have r0 := CR.cell 0; have r1 := CR.cell 1; have r2 := CR.cell 2; have HCR12 := Lib.hid CR; clear CR hw12 hsd)))
          | (go_at_call 39; go_must ((refine (ref3_Triggers r pl A0 A1 A2 C Ax n0 n1 n2 c0 c1 c2 l.length c l.length cx _ (H0.out.below HB12.out) (((HRX.out.below HX10.out).below HBk.out).below HX12.out) HR.out.fit).mono ?_; rw [HRT.out]; rintro e13 w13 ⟨rfl, hw13⟩; have HB13 := Lib.hid (bel_then HB12.out hw13); have HX13 := Lib.hid (bel_then HX12.out hw13); have HSd13 := Lib.hid (HSd.out.below hw13); clear hw13))))
        go_loopw [26] (fun v26 wr => ∃ j q : Nat, j ≤ l.length ∧ v26 = .int .i64 j ∧ wr = w13.drewN q) (fun v26 _ => l.length - (intOf v26).toNat)
        case atStart => exact ⟨0, 0, Nat.zero_le _, rfl, rfl⟩
        case round =>
          obtain ⟨j, q, hj, rfl, rfl⟩ := hrel
          by_cases hjl : j < l.length
          · obtain ⟨x, hx⟩ := HC.out.get hjl
            obtain ⟨p, hp⟩ := HRX.out.get hjl
            obtain ⟨p1, p2, p3, p4, p5, p6, p7, p8, _⟩ := HO.out.at_ hx
            obtain ⟨g1, g2⟩ := HTX.out.at_ hp
            have hh := heard (s := s) (r := r) (run := run) HO.out HGX.out HTX.out HFR.out.1 (by have := HRL.out; have := HNN.out; omega) HRP.out hx hp
            have hy : run[x.place.toNat]? = some (run[x.place.toNat]'(by have := HRL.out; have := HNN.out; omega)) := List.getElem?_eq_getElem _
            have hz : run[p.toNat]? = some (run[p.toNat]'(by have := HRL.out; have := HNN.out; omega)) := List.getElem?_eq_getElem _
            obtain ⟨y, hyv⟩ : ∃ y, run[x.place.toNat]'(by have := HRL.out; have := HNN.out; omega) = y := ⟨_, rfl⟩
            obtain ⟨z, hzv⟩ : ∃ z, run[p.toNat]'(by have := HRL.out; have := HNN.out; omega) = z := ⟨_, rfl⟩
            rw [hyv] at hy
            rw [hzv] at hz
            rw [runAt_get hy, runAt_get hz] at hh
            have hyb := HRO.out.at_ hy
            have hzb := HRO.out.at_ hz
            have heb := endAt_bound (ts := pl) HRO.out HO.out (j + 1)
            obtain ⟨ev, hev⟩ : ∃ ev, endAt l pl run (j + 1) = ev := ⟨_, rfl⟩
            rw [hev] at hh heb
            have het : (ends l pl run l.length)[j]? = some ev := by rw [← hev]; unfold ends; simp [hjl]
            obtain ⟨ad1, e1, x0, x1, x2, x3, x4⟩ := (HC.out.below HB13.out).atCall hx
            cases e1
            obtain ⟨ad2, e2, t0⟩ := HSd13.out.at1 het
            cases e2
            obtain ⟨ad3, e3, q0⟩ := (((HRX.out.below HX10.out).below HBk.out).below HX13.out).at1 hp
            cases e3
            obtain ⟨ad4, e4, y0⟩ := (HRun.out.below HX13.out).at1 hy
            cases e4
            obtain ⟨ad5, e5, z0⟩ := (HRun.out.below HX13.out).at1 hz
            cases e5
            rw [add_own] at y0 z0
            have hd1 : decide (y < ev + x.lead) = false := by simp; omega
            have hd2 : decide (x.ahead < y - z) = false := by simp; omega
            have k1 : x.place < (k : Int) + 1 := by have := HNN.out; omega
            have k2 : p < (k : Int) + 1 := by have := HNN.out; omega
            have hl8 := HO.out.1
            obtain ⟨heb1, heb2⟩ := heb
            have heb3 : ev ≤ 1125899906842624 * 302 := by omega
            obtain ⟨hyb1, hyb2⟩ := hyb
            obtain ⟨hzb1, hzb2⟩ := hzb
            clear hx hp hh hy hz hyv hzv hev het heb2
            go_wp2
            go_quiet (fail)
            go_wp2
            go_roundw
            case rel => exact ⟨j + 1, _, by omega, by go_num, by first | rfl | rw [World.drewN_drewN]⟩
            case measure => simp [intOf]; omega
          · obtain rfl : j = l.length := by omega
            go_wp2_with (go_at_call 18; go_must ((refine (known_ _ (HT.out.below (bel_drewN HB13.out _))).mono ?_; rintro e14 w14 ⟨rfl, hw14⟩)))
            go_ret
            exact ⟨rfl, bel_then (bel_drewN HB13.out _) hw14⟩
end Go.Proofs.YtinglbcafcjhfaaDoor
