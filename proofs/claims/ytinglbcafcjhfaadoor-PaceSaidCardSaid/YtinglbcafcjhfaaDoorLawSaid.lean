/- The walk of the law PaceSaid. -/
import Derived.Test.YtinglbcafcjhfaaDoorLawB
import Derived.Test.YtinglbcafcjhfaaDoorSaidB
import Derived.Lib.QuietBelow
namespace Go.Proofs.YtinglbcafcjhfaaDoor
open Go.RowKit
set_option linter.unusedVariables false
set_option linter.unusedSimpArgs false

set_option maxRecDepth 100000 in
set_option maxHeartbeats 2000000 in
theorem law_PaceSaid (r : Road) (l : List Call) (ts run : List Int) (A0 A1 A2 C B D : Option Addr) (n0 n1 n2 c0 c1 c2 n c m d q e : Nat) (w : World) (h0 : Rd 5 Piece.enc w A0 n0 r.pieces) (h1 : Rd 2 Crest.enc w A1 n1 r.crests) (h2 : Rd 3 Junction.enc w A2 n2 r.juncs) (hc : Rd 5 Call.enc w C n l) (g1 : Rd 1 intEnc w B m ts) (g2 : Rd 1 intEnc w D q run) (ht : Tab w) :
    Calls Tryd.prog 9 #[.agg #[.slice A0 n0 c0, .slice A1 n1 c1, .slice A2 n2 c2], .slice C n c, .slice B m d, .slice D q e] w (LawPost w) := by
  obtain rfl : n = l.length := hc.1.symm
  obtain rfl : m = ts.length := g1.1.symm
  obtain rfl : q = run.length := g2.1.symm
  have e1 := h1.1
  have e2 := h2.1
  have E1 := Lib.hid e1
  have E2 := Lib.hid e2
  have HT := Lib.hid ht
  have HC := Lib.hid hc
  have G1 := Lib.hid g1
  have G2 := Lib.hid g2
  have mc1 := hc.2.1
  have md1 := g1.2.1
  have me1 := g2.2.1
  have H0 := Lib.hid h0
  have H1 := Lib.hid h1
  have H2 := Lib.hid h2
  clear h0 h1 h2 e1 e2 ht hc g1 g2
  by_cases hfew : Few r
  rotate_left
  · have hb1 := bo_false hfew
    clear hfew
    go_enter Tryd.func9, Tryd.ntmps9
    go_wp2_with (first
      | (go_at_call 16; go_must ((refine (law_few r A0 A1 A2 n0 n1 n2 c0 c1 c2 _ (H0.out.below (by repeat (first | assumption | exact Below.refl _ _ | apply bel_alloc | apply bel_drew | apply bel_drewN | (refine bel_set ?_ (by first | assumption | omega | (simp; done) | (simp; omega)) _)))) E1.out E2.out).mono ?_; rintro e9 w1 ⟨rfl, hw1⟩; have CR : Blk w1 w.heap.size 26 #[.slice A0 n0 c0, .slice A1 n1 c1, .slice A2 n2 c2] := (Blk.new _ _ _).below hw1; have r0 := CR.cell 0; have r1 := CR.cell 1; have r2 := CR.cell 2; have HCR := Lib.hid CR; clear CR; have hv1 : Below w.heap.size w w1 := bel_then (by repeat (first | assumption | exact Below.refl _ _ | apply bel_alloc | apply bel_drew | apply bel_drewN | (refine bel_set ?_ (by first | assumption | omega | (simp; done) | (simp; omega)) _))) hw1; have HB1 := Lib.hid hv1; clear hw1 hv1)))
      | (go_at_call 18; go_must ((refine (known_ _ (HT.out.below HB1.out)).mono ?_; rintro e w2 ⟨rfl, hw2⟩))))
    go_ret
    exact ⟨rfl, bel_then HB1.out hw2⟩
  have hb1 := bo_true hfew
  clear hfew
  have hsm : decide ((l.length : Int) ≤ 8) = false ∨ decide ((l.length : Int) ≤ 8) = true ∧ decide (20 < (ts.length : Int)) = true ∨ decide ((l.length : Int) ≤ 8) = true ∧ decide (20 < (ts.length : Int)) = false ∧ decide (200 < (run.length : Int)) = true ∨ decide ((l.length : Int) ≤ 8) = true ∧ decide (20 < (ts.length : Int)) = false ∧ decide (200 < (run.length : Int)) = false := by
    simp only [decide_eq_true_eq, decide_eq_false_iff_not]
    omega
  rcases hsm with hb3 | ⟨hb3, hb4⟩ | ⟨hb3, hb4, hb5⟩ | ⟨hb3, hb4, hb5⟩
  · go_enter Tryd.func9, Tryd.ntmps9
    go_wp2_with (first
      | (go_at_call 16; go_must ((refine (law_few r A0 A1 A2 n0 n1 n2 c0 c1 c2 _ (H0.out.below (by repeat (first | assumption | exact Below.refl _ _ | apply bel_alloc | apply bel_drew | apply bel_drewN | (refine bel_set ?_ (by first | assumption | omega | (simp; done) | (simp; omega)) _)))) E1.out E2.out).mono ?_; rintro e9 w1 ⟨rfl, hw1⟩; have CR : Blk w1 w.heap.size 26 #[.slice A0 n0 c0, .slice A1 n1 c1, .slice A2 n2 c2] := (Blk.new _ _ _).below hw1; have r0 := CR.cell 0; have r1 := CR.cell 1; have r2 := CR.cell 2; have HCR := Lib.hid CR; clear CR; have hv1 : Below w.heap.size w w1 := bel_then (by repeat (first | assumption | exact Below.refl _ _ | apply bel_alloc | apply bel_drew | apply bel_drewN | (refine bel_set ?_ (by first | assumption | omega | (simp; done) | (simp; omega)) _))) hw1; have HB1 := Lib.hid hv1; clear hw1 hv1)))
      | (go_at_call 30; go_must ((refine (law_some _ _ _ _).mono ?_; rintro e wz ⟨rfl, rfl⟩)))
      | (go_at_call 18; go_must ((refine (known_ _ (HT.out.below HB1.out)).mono ?_; rintro e w3 ⟨rfl, hw3⟩))))
    go_ret
    exact ⟨rfl, bel_then HB1.out hw3⟩
  · go_enter Tryd.func9, Tryd.ntmps9
    go_wp2_with (first
      | (go_at_call 16; go_must ((refine (law_few r A0 A1 A2 n0 n1 n2 c0 c1 c2 _ (H0.out.below (by repeat (first | assumption | exact Below.refl _ _ | apply bel_alloc | apply bel_drew | apply bel_drewN | (refine bel_set ?_ (by first | assumption | omega | (simp; done) | (simp; omega)) _)))) E1.out E2.out).mono ?_; rintro e9 w1 ⟨rfl, hw1⟩; have CR : Blk w1 w.heap.size 26 #[.slice A0 n0 c0, .slice A1 n1 c1, .slice A2 n2 c2] := (Blk.new _ _ _).below hw1; have r0 := CR.cell 0; have r1 := CR.cell 1; have r2 := CR.cell 2; have HCR := Lib.hid CR; clear CR; have hv1 : Below w.heap.size w w1 := bel_then (by repeat (first | assumption | exact Below.refl _ _ | apply bel_alloc | apply bel_drew | apply bel_drewN | (refine bel_set ?_ (by first | assumption | omega | (simp; done) | (simp; omega)) _))) hw1; have HB1 := Lib.hid hv1; clear hw1 hv1)))
      | (go_at_call 30; go_must ((refine (law_some _ _ _ _).mono ?_; rintro e wz ⟨rfl, rfl⟩)))
      | (go_at_call 18; go_must ((refine (known_ _ (HT.out.below HB1.out)).mono ?_; rintro e w3 ⟨rfl, hw3⟩))))
    go_ret
    exact ⟨rfl, bel_then HB1.out hw3⟩
  · go_enter Tryd.func9, Tryd.ntmps9
    go_wp2_with (first
      | (go_at_call 16; go_must ((refine (law_few r A0 A1 A2 n0 n1 n2 c0 c1 c2 _ (H0.out.below (by repeat (first | assumption | exact Below.refl _ _ | apply bel_alloc | apply bel_drew | apply bel_drewN | (refine bel_set ?_ (by first | assumption | omega | (simp; done) | (simp; omega)) _)))) E1.out E2.out).mono ?_; rintro e9 w1 ⟨rfl, hw1⟩; have CR : Blk w1 w.heap.size 26 #[.slice A0 n0 c0, .slice A1 n1 c1, .slice A2 n2 c2] := (Blk.new _ _ _).below hw1; have r0 := CR.cell 0; have r1 := CR.cell 1; have r2 := CR.cell 2; have HCR := Lib.hid CR; clear CR; have hv1 : Below w.heap.size w w1 := bel_then (by repeat (first | assumption | exact Below.refl _ _ | apply bel_alloc | apply bel_drew | apply bel_drewN | (refine bel_set ?_ (by first | assumption | omega | (simp; done) | (simp; omega)) _))) hw1; have HB1 := Lib.hid hv1; clear hw1 hv1)))
      | (go_at_call 30; go_must ((refine (law_some _ _ _ _).mono ?_; rintro e wz ⟨rfl, rfl⟩)))
      | (go_at_call 18; go_must ((refine (known_ _ (HT.out.below HB1.out)).mono ?_; rintro e w3 ⟨rfl, hw3⟩))))
    go_ret
    exact ⟨rfl, bel_then HB1.out hw3⟩
  by_cases hok : SaidOk r l ts run
  · have hv1 : bo r.Valid = true := bo_true hok.1
    have hv2 : bo (CallsOk r.length l) = true := bo_true hok.2.1
    have hv3 : bo (TrigsOk r.length l.length ts) = true := bo_true hok.2.2.1
    have hv4 : bo (RunOk r.length run) = true := bo_true hok.2.2.2
    have HOK := Lib.hid hok
    clear hok
    go_enter Tryd.func9, Tryd.ntmps9
    go_wp2_with (first
      | (go_at_call 16; go_must ((refine (law_few r A0 A1 A2 n0 n1 n2 c0 c1 c2 _ (H0.out.below (by repeat (first | assumption | exact Below.refl _ _ | apply bel_alloc | apply bel_drew | apply bel_drewN | (refine bel_set ?_ (by first | assumption | omega | (simp; done) | (simp; omega)) _)))) E1.out E2.out).mono ?_; rintro e9 w1 ⟨rfl, hw1⟩; have CR : Blk w1 w.heap.size 26 #[.slice A0 n0 c0, .slice A1 n1 c1, .slice A2 n2 c2] := (Blk.new _ _ _).below hw1; have r0 := CR.cell 0; have r1 := CR.cell 1; have r2 := CR.cell 2; have HCR := Lib.hid CR; clear CR; have hv1 : Below w.heap.size w w1 := bel_then (by repeat (first | assumption | exact Below.refl _ _ | apply bel_alloc | apply bel_drew | apply bel_drewN | (refine bel_set ?_ (by first | assumption | omega | (simp; done) | (simp; omega)) _))) hw1; have HB1 := Lib.hid hv1; clear hw1 hv1)))
      | (go_at_call 30; go_must ((refine (law_some _ _ _ _).mono ?_; rintro e wz ⟨rfl, rfl⟩)))
      | (go_at_call 41; go_must ((refine (pace_Said r l ts run A0 A1 A2 C B D n0 n1 n2 c0 c1 c2 l.length c _ d _ e _ (H0.out.below HB1.out) (H1.out.below HB1.out) (H2.out.below HB1.out) (HC.out.below HB1.out) (G1.out.below HB1.out) (G2.out.below HB1.out)).mono ?_; intro e9 w3 hpost; obtain ⟨Ap, kp, rfl, hrd, hw3⟩ := hpost.yes HOK.out; have CR := HCR.out.below hw3; (try clear r0 r1 r2); have r0 := CR.cell 0; have r1 := CR.cell 1; have r2 := CR.cell 2; have HCR := Lib.hid CR; clear CR; have HRD := Lib.hid hrd; have HB3 := Lib.hid (bel_then HB1.out hw3); clear hw3 hrd hpost)))
      | (go_at_call 42; go_must ((refine (ref1_Valid r A0 A1 A2 n0 n1 n2 c0 c1 c2 _ (H0.out.below HB3.out) (H1.out.below HB3.out) (H2.out.below HB3.out)).mono ?_; rintro e9 w5 ⟨rfl, hw5⟩; have CR := HCR.out.below hw5; (try clear r0 r1 r2); have r0 := CR.cell 0; have r1 := CR.cell 1; have r2 := CR.cell 2; have HCR := Lib.hid CR; clear CR; have HB5 := Lib.hid (bel_then HB3.out hw5); have HX5 := Lib.hid hw5; clear hw5)))
      | (go_at_call 32; go_must ((refine (ref3_Calls r l A0 A1 A2 C n0 n1 n2 c0 c1 c2 l.length c _ (H0.out.below HB5.out) (HC.out.below HB5.out) HOK.out.1.fit).mono ?_; rintro e9 w6 ⟨rfl, hw6⟩; have CR := HCR.out.below hw6; (try clear r0 r1 r2); have r0 := CR.cell 0; have r1 := CR.cell 1; have r2 := CR.cell 2; have HCR := Lib.hid CR; clear CR; have HB6 := Lib.hid (bel_then HB5.out hw6); have HX6 := Lib.hid (bel_then HX5.out hw6); clear hw6)))
      | (go_at_call 39; go_must ((refine (ref3_Triggers r ts A0 A1 A2 C B n0 n1 n2 c0 c1 c2 l.length c _ d _ (H0.out.below HB6.out) (G1.out.below HB6.out) HOK.out.1.fit).mono ?_; rintro e9 w7 ⟨rfl, hw7⟩; have CR := HCR.out.below hw7; (try clear r0 r1 r2); have r0 := CR.cell 0; have r1 := CR.cell 1; have r2 := CR.cell 2; have HCR := Lib.hid CR; clear CR; have HB7 := Lib.hid (bel_then HB6.out hw7); have HX7 := Lib.hid (bel_then HX6.out hw7); clear hw7)))
      | (go_at_call 43; go_must ((refine (ref3_Run r run A0 A1 A2 D n0 n1 n2 c0 c1 c2 _ e _ (H0.out.below HB7.out) (G2.out.below HB7.out) HOK.out.1).mono ?_; rintro e9 w8 ⟨rfl, hw8⟩; have CR := HCR.out.below hw8; (try clear r0 r1 r2); have r0 := CR.cell 0; have r1 := CR.cell 1; have r2 := CR.cell 2; have HCR := Lib.hid CR; clear CR; have HB8 := Lib.hid (bel_then HB7.out hw8); have HX8 := Lib.hid (bel_then HX7.out hw8); clear hw8)))
      | (go_at_call 44; go_must ((refine (ref3_Said l ts run r.length C B D l.length c _ d _ e _ (HC.out.below HB8.out) (G1.out.below HB8.out) (G2.out.below HB8.out) HOK.out.2.1 HOK.out.2.2.1 HOK.out.2.2.2).mono ?_; rintro e9 w9 ⟨Aq, kq, rfl, hrq, hw9⟩; have HRQ := Lib.hid hrq; have HB9 := Lib.hid (bel_then HB8.out hw9); have HX9 := Lib.hid (bel_then HX8.out hw9); clear hw9 hrq)))
      | (go_at_call 34; go_must ((refine (ref_Same _ _ Ap Aq l.length l.length kp kq _ (HRD.out.below HX9.out) HRQ.out).mono ?_; rintro e9 w10 ⟨rfl, nq, rfl⟩)))
      | (go_at_call 18; go_must ((refine (known_ _ (HT.out.below (by have := HB9.out; exact (by repeat (first | assumption | exact Below.refl _ _ | apply bel_alloc | apply bel_drew | apply bel_drewN | (refine bel_set ?_ (by first | assumption | omega | (simp; done) | (simp; omega)) _)))))).mono ?_; rintro e9 w11 ⟨rfl, hw11⟩))))
    go_ret
    exact ⟨rfl, bel_then (by have := HB9.out; exact (by repeat (first | assumption | exact Below.refl _ _ | apply bel_alloc | apply bel_drew | apply bel_drewN | (refine bel_set ?_ (by first | assumption | omega | (simp; done) | (simp; omega)) _)))) hw11⟩
  · have HNO := Lib.hid hok
    have hcases : bo r.Valid = false ∨ bo r.Valid = true ∧ bo (CallsOk r.length l) = false ∨ bo r.Valid = true ∧ bo (CallsOk r.length l) = true ∧ bo (TrigsOk r.length l.length ts) = false ∨ bo r.Valid = true ∧ bo (CallsOk r.length l) = true ∧ bo (TrigsOk r.length l.length ts) = true ∧ bo (RunOk r.length run) = false := by
      by_cases hf : r.Valid
      · by_cases hc : CallsOk r.length l
        · by_cases ht : TrigsOk r.length l.length ts
          · exact .inr (.inr (.inr ⟨bo_true hf, bo_true hc, bo_true ht, bo_false fun h => hok ⟨hf, hc, ht, h⟩⟩))
          · exact .inr (.inr (.inl ⟨bo_true hf, bo_true hc, bo_false ht⟩))
        · exact .inr (.inl ⟨bo_true hf, bo_false hc⟩)
      · exact .inl (bo_false hf)
    clear hok
    rcases hcases with hv1 | ⟨hv1, hv2⟩ | ⟨hv1, hv2, hv3⟩ | ⟨hv1, hv2, hv3, hv4⟩
    all_goals
      go_enter Tryd.func9, Tryd.ntmps9
      go_wp2_with (first
        | (go_at_call 16; go_must ((refine (law_few r A0 A1 A2 n0 n1 n2 c0 c1 c2 _ (H0.out.below (by repeat (first | assumption | exact Below.refl _ _ | apply bel_alloc | apply bel_drew | apply bel_drewN | (refine bel_set ?_ (by first | assumption | omega | (simp; done) | (simp; omega)) _)))) E1.out E2.out).mono ?_; rintro e9 w1 ⟨rfl, hw1⟩; have CR : Blk w1 w.heap.size 26 #[.slice A0 n0 c0, .slice A1 n1 c1, .slice A2 n2 c2] := (Blk.new _ _ _).below hw1; have r0 := CR.cell 0; have r1 := CR.cell 1; have r2 := CR.cell 2; have HCR := Lib.hid CR; clear CR; have hv1 : Below w.heap.size w w1 := bel_then (by repeat (first | assumption | exact Below.refl _ _ | apply bel_alloc | apply bel_drew | apply bel_drewN | (refine bel_set ?_ (by first | assumption | omega | (simp; done) | (simp; omega)) _))) hw1; have HB1 := Lib.hid hv1; clear hw1 hv1)))
        | (go_at_call 30; go_must ((refine (law_some _ _ _ _).mono ?_; rintro e wz ⟨rfl, rfl⟩)))
        | (go_at_call 41; go_must ((refine (pace_Said r l ts run A0 A1 A2 C B D n0 n1 n2 c0 c1 c2 l.length c _ d _ e _ (H0.out.below HB1.out) (H1.out.below HB1.out) (H2.out.below HB1.out) (HC.out.below HB1.out) (G1.out.below HB1.out) (G2.out.below HB1.out)).mono ?_; intro e9 w3 hpost; obtain ⟨rfl, hw3⟩ := hpost.no HNO.out; have CR := HCR.out.below hw3; (try clear r0 r1 r2); have r0 := CR.cell 0; have r1 := CR.cell 1; have r2 := CR.cell 2; have HCR := Lib.hid CR; clear CR; have HB3 := Lib.hid (bel_then HB1.out hw3); clear hw3 hpost)))
        | (go_at_call 42; go_must ((refine (ref1_Valid r A0 A1 A2 n0 n1 n2 c0 c1 c2 _ (H0.out.below HB3.out) (H1.out.below HB3.out) (H2.out.below HB3.out)).mono ?_; rintro e9 w5 ⟨rfl, hw5⟩; have CR := HCR.out.below hw5; (try clear r0 r1 r2); have r0 := CR.cell 0; have r1 := CR.cell 1; have r2 := CR.cell 2; have HCR := Lib.hid CR; clear CR; have HB5 := Lib.hid (bel_then HB3.out hw5); clear hw5)))
        | (go_at_call 32; go_must ((refine (ref3_Calls r l A0 A1 A2 C n0 n1 n2 c0 c1 c2 l.length c _ (H0.out.below HB5.out) (HC.out.below HB5.out) (bo_iff.1 hv1).fit).mono ?_; rintro e9 w6 ⟨rfl, hw6⟩; have CR := HCR.out.below hw6; (try clear r0 r1 r2); have r0 := CR.cell 0; have r1 := CR.cell 1; have r2 := CR.cell 2; have HCR := Lib.hid CR; clear CR; have HB6 := Lib.hid (bel_then HB5.out hw6); clear hw6)))
        | (go_at_call 39; go_must ((refine (ref3_Triggers r ts A0 A1 A2 C B n0 n1 n2 c0 c1 c2 l.length c _ d _ (H0.out.below HB6.out) (G1.out.below HB6.out) (bo_iff.1 hv1).fit).mono ?_; rintro e9 w7 ⟨rfl, hw7⟩; have CR := HCR.out.below hw7; (try clear r0 r1 r2); have r0 := CR.cell 0; have r1 := CR.cell 1; have r2 := CR.cell 2; have HCR := Lib.hid CR; clear CR; have HB7 := Lib.hid (bel_then HB6.out hw7); clear hw7)))
        | (go_at_call 43; go_must ((refine (ref3_Run r run A0 A1 A2 D n0 n1 n2 c0 c1 c2 _ e _ (H0.out.below HB7.out) (G2.out.below HB7.out) (bo_iff.1 hv1)).mono ?_; rintro e9 w8 ⟨rfl, hw8⟩; have CR := HCR.out.below hw8; (try clear r0 r1 r2); have r0 := CR.cell 0; have r1 := CR.cell 1; have r2 := CR.cell 2; have HCR := Lib.hid CR; clear CR; have HB8 := Lib.hid (bel_then HB7.out hw8); clear hw8)))
        | (go_at_call 18; go_must (((first | refine (known_ _ (HT.out.below HB8.out)).mono ?_ | refine (known_ _ (HT.out.below HB7.out)).mono ?_ | refine (known_ _ (HT.out.below HB6.out)).mono ?_ | refine (known_ _ (HT.out.below HB5.out)).mono ?_); rintro e9 w11 ⟨rfl, hw11⟩))))
      go_ret
      first | exact ⟨rfl, bel_then HB8.out hw11⟩ | exact ⟨rfl, bel_then HB7.out hw11⟩ | exact ⟨rfl, bel_then HB6.out hw11⟩ | exact ⟨rfl, bel_then HB5.out hw11⟩
end Go.Proofs.YtinglbcafcjhfaaDoor
