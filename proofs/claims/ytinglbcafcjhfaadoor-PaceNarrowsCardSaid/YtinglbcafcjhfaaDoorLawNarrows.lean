/- The walk of the law PaceNarrows. -/
import Derived.Test.YtinglbcafcjhfaaDoorLawB
import Derived.Test.YtinglbcafcjhfaaDoorFitD
import Derived.Test.YtinglbcafcjhfaaDoorNarrowD
import Derived.Lib.QuietBelow
namespace Go.Proofs.YtinglbcafcjhfaaDoor
open Go.RowKit
set_option linter.unusedVariables false
set_option linter.unusedSimpArgs false

set_option maxRecDepth 100000 in
set_option maxHeartbeats 4000000 in
theorem law_PaceNarrows (s : Speeds) (r : Road) (l : List Passing) (A0 A1 A2 B2 B3 : Option Addr) (n0 n1 n2 m2 m3 c0 c1 c2 d2 d3 : Nat) (C : Option Addr) (n c : Nat) (w : World) (h0 : Rd 5 Piece.enc w A0 n0 r.pieces) (h1 : Rd 2 Crest.enc w A1 n1 r.crests) (h2 : Rd 3 Junction.enc w A2 n2 r.juncs) (g2 : Rd 3 SpeedRow.enc w B2 m2 s.rows) (g3 : Rd 1 intEnc w B3 m3 s.surface) (hc : Rd 3 Passing.enc w C n l) (ht : Tab w) :
    Calls Tryd.prog 10 #[.agg #[.slice A0 n0 c0, .slice A1 n1 c1, .slice A2 n2 c2], .agg #[.int .i64 s.least, .int .i64 s.most, .slice B2 m2 d2, .slice B3 m3 d3], .slice C n c] w (LawPost w) := by
  have hnl : n = l.length := hc.1.symm
  subst hnl
  have e1 := h1.1
  have e2 := h2.1
  have f2 := g2.1
  have f3 := g3.1
  have E1 := Lib.hid e1
  have E2 := Lib.hid e2
  have F2 := Lib.hid f2
  have F3 := Lib.hid f3
  have HT := Lib.hid ht
  have HC := Lib.hid hc
  have mc1 := hc.2.1
  clear e1 e2 f2 f3 ht hc
  have H0 := Lib.hid h0; have H1 := Lib.hid h1; have H2 := Lib.hid h2; have G2 := Lib.hid g2; have G3 := Lib.hid g3; clear h0 h1 h2 g2 g3
  by_cases hfew : Few r
  rotate_left
  · have hb1 := bo_false hfew
    clear hfew
    go_enter Tryd.func10, Tryd.ntmps10
    go_wp2_with (first
      | (go_at_call 16; go_must ((refine (law_few r A0 A1 A2 n0 n1 n2 c0 c1 c2 _ (H0.out.below (by repeat (first | assumption | exact Below.refl _ _ | apply bel_alloc | apply bel_drew | apply bel_drewN | (refine bel_set ?_ (by first | assumption | omega | (simp; done) | (simp; omega)) _)))) E1.out E2.out).mono ?_; rintro e w1 ⟨rfl, hw1⟩; have CS : Blk w1 (w.heap.size + 1) 30 #[.int .i64 s.least, .int .i64 s.most, .slice B2 m2 d2, .slice B3 m3 d3] := (Blk.new_at _ _ _ _ (by simp)).below hw1; have CR : Blk w1 w.heap.size 26 #[.slice A0 n0 c0, .slice A1 n1 c1, .slice A2 n2 c2] := ((Blk.new _ _ _).alloc _).below hw1; have s0 := CS.cell 0; have s1 := CS.cell 1; have s2 := CS.cell 2; have s3 := CS.cell 3; have HCS := Lib.hid CS; have HCR := Lib.hid CR; clear CS CR; have hv1 : Below w.heap.size w w1 := bel_then (by repeat (first | assumption | exact Below.refl _ _ | apply bel_alloc | apply bel_drew | apply bel_drewN | (refine bel_set ?_ (by first | assumption | omega | (simp; done) | (simp; omega)) _))) hw1; have HB1 := Lib.hid hv1; clear hw1 hv1)))
      | (go_at_call 18; go_must ((refine (known_ _ (HT.out.below HB1.out)).mono ?_; rintro e w2 ⟨rfl, hw2⟩))))
    go_ret
    exact ⟨rfl, bel_then HB1.out hw2⟩
  have hb1 := bo_true hfew
  have HFEW := Lib.hid hfew
  clear hfew
  by_cases hquick : Quick s
  rotate_left
  · have hb2 := bo_false hquick
    clear hquick
    go_enter Tryd.func10, Tryd.ntmps10
    go_wp2_with (first
      | (go_at_call 16; go_must ((refine (law_few r A0 A1 A2 n0 n1 n2 c0 c1 c2 _ (H0.out.below (by repeat (first | assumption | exact Below.refl _ _ | apply bel_alloc | apply bel_drew | apply bel_drewN | (refine bel_set ?_ (by first | assumption | omega | (simp; done) | (simp; omega)) _)))) E1.out E2.out).mono ?_; rintro e w1 ⟨rfl, hw1⟩; have CS : Blk w1 (w.heap.size + 1) 30 #[.int .i64 s.least, .int .i64 s.most, .slice B2 m2 d2, .slice B3 m3 d3] := (Blk.new_at _ _ _ _ (by simp)).below hw1; have CR : Blk w1 w.heap.size 26 #[.slice A0 n0 c0, .slice A1 n1 c1, .slice A2 n2 c2] := ((Blk.new _ _ _).alloc _).below hw1; have s0 := CS.cell 0; have s1 := CS.cell 1; have s2 := CS.cell 2; have s3 := CS.cell 3; have HCS := Lib.hid CS; have HCR := Lib.hid CR; clear CS CR; have hv1 : Below w.heap.size w w1 := bel_then (by repeat (first | assumption | exact Below.refl _ _ | apply bel_alloc | apply bel_drew | apply bel_drewN | (refine bel_set ?_ (by first | assumption | omega | (simp; done) | (simp; omega)) _))) hw1; have HB1 := Lib.hid hv1; clear hw1 hv1)))
      | (go_at_call 17; go_must ((refine (law_quick s B2 B3 m2 m3 d2 d3 _ F2.out F3.out).mono ?_; rintro e w2 ⟨rfl, hw2⟩; have CS := HCS.out.below hw2; have CR := HCR.out.below hw2; clear s0 s1 s2 s3; have s0 := CS.cell 0; have s1 := CS.cell 1; have s2 := CS.cell 2; have s3 := CS.cell 3; have r0 := CR.cell 0; have r1 := CR.cell 1; have r2 := CR.cell 2; have HCS := Lib.hid CS; have HCR := Lib.hid CR; clear CS CR; have HB2 := Lib.hid (bel_then HB1.out hw2); clear hw2)))
      | (go_at_call 18; go_must ((refine (known_ _ (HT.out.below HB2.out)).mono ?_; rintro e w3 ⟨rfl, hw3⟩))))
    go_ret
    exact ⟨rfl, bel_then HB2.out hw3⟩
  have hb2 := bo_true hquick
  have HQ := Lib.hid hquick
  clear hquick
  rcases hb3 : decide (220 < (l.length : Int))
  rotate_left
  · go_enter Tryd.func10, Tryd.ntmps10
    go_wp2_with (first
      | (go_at_call 16; go_must ((refine (law_few r A0 A1 A2 n0 n1 n2 c0 c1 c2 _ (H0.out.below (by repeat (first | assumption | exact Below.refl _ _ | apply bel_alloc | apply bel_drew | apply bel_drewN | (refine bel_set ?_ (by first | assumption | omega | (simp; done) | (simp; omega)) _)))) E1.out E2.out).mono ?_; rintro e w1 ⟨rfl, hw1⟩; have CS : Blk w1 (w.heap.size + 1) 30 #[.int .i64 s.least, .int .i64 s.most, .slice B2 m2 d2, .slice B3 m3 d3] := (Blk.new_at _ _ _ _ (by simp)).below hw1; have CR : Blk w1 w.heap.size 26 #[.slice A0 n0 c0, .slice A1 n1 c1, .slice A2 n2 c2] := ((Blk.new _ _ _).alloc _).below hw1; have s0 := CS.cell 0; have s1 := CS.cell 1; have s2 := CS.cell 2; have s3 := CS.cell 3; have HCS := Lib.hid CS; have HCR := Lib.hid CR; clear CS CR; have hv1 : Below w.heap.size w w1 := bel_then (by repeat (first | assumption | exact Below.refl _ _ | apply bel_alloc | apply bel_drew | apply bel_drewN | (refine bel_set ?_ (by first | assumption | omega | (simp; done) | (simp; omega)) _))) hw1; have HB1 := Lib.hid hv1; clear hw1 hv1)))
      | (go_at_call 17; go_must ((refine (law_quick s B2 B3 m2 m3 d2 d3 _ F2.out F3.out).mono ?_; rintro e w2 ⟨rfl, hw2⟩; have CS := HCS.out.below hw2; have CR := HCR.out.below hw2; clear s0 s1 s2 s3; have s0 := CS.cell 0; have s1 := CS.cell 1; have s2 := CS.cell 2; have s3 := CS.cell 3; have r0 := CR.cell 0; have r1 := CR.cell 1; have r2 := CR.cell 2; have HCS := Lib.hid CS; have HCR := Lib.hid CR; clear CS CR; have HB2 := Lib.hid (bel_then HB1.out hw2); clear hw2)))
      | (go_at_call 18; go_must ((refine (known_ _ (HT.out.below HB2.out)).mono ?_; rintro e w3 ⟨rfl, hw3⟩))))
    go_ret
    exact ⟨rfl, bel_then HB2.out hw3⟩
  by_cases hok : r.Valid ∧ s.Valid ∧ PassOk r.length l
  · have hfi : bo (Fine r s) = true := bo_true ⟨hok.1, hok.2.1⟩
    have hco : bo (PassOk r.length l) = true := bo_true hok.2.2
    have HOK := Lib.hid hok
    obtain ⟨V, hV⟩ : ∃ V, (narrowed (sumsOf s r) l).any (fun x => decide (x.latest < x.earliest)) = V := ⟨_, rfl⟩
    have HV := Lib.hid hV
    clear hok hV
    go_enter Tryd.func10, Tryd.ntmps10
    go_wp2_with (first
      | (go_at_call 16; go_must ((refine (law_few r A0 A1 A2 n0 n1 n2 c0 c1 c2 _ (H0.out.below (by repeat (first | assumption | exact Below.refl _ _ | apply bel_alloc | apply bel_drew | apply bel_drewN | (refine bel_set ?_ (by first | assumption | omega | (simp; done) | (simp; omega)) _)))) E1.out E2.out).mono ?_; rintro e w1 ⟨rfl, hw1⟩; have CS : Blk w1 (w.heap.size + 1) 30 #[.int .i64 s.least, .int .i64 s.most, .slice B2 m2 d2, .slice B3 m3 d3] := (Blk.new_at _ _ _ _ (by simp)).below hw1; have CR : Blk w1 w.heap.size 26 #[.slice A0 n0 c0, .slice A1 n1 c1, .slice A2 n2 c2] := ((Blk.new _ _ _).alloc _).below hw1; have s0 := CS.cell 0; have s1 := CS.cell 1; have s2 := CS.cell 2; have s3 := CS.cell 3; have HCS := Lib.hid CS; have HCR := Lib.hid CR; clear CS CR; have hv1 : Below w.heap.size w w1 := bel_then (by repeat (first | assumption | exact Below.refl _ _ | apply bel_alloc | apply bel_drew | apply bel_drewN | (refine bel_set ?_ (by first | assumption | omega | (simp; done) | (simp; omega)) _))) hw1; have HB1 := Lib.hid hv1; clear hw1 hv1)))
      | (go_at_call 17; go_must ((refine (law_quick s B2 B3 m2 m3 d2 d3 _ F2.out F3.out).mono ?_; rintro e w2 ⟨rfl, hw2⟩; have CS := HCS.out.below hw2; have CR := HCR.out.below hw2; clear s0 s1 s2 s3; have s0 := CS.cell 0; have s1 := CS.cell 1; have s2 := CS.cell 2; have s3 := CS.cell 3; have r0 := CR.cell 0; have r1 := CR.cell 1; have r2 := CR.cell 2; have HCS := Lib.hid CS; have HCR := Lib.hid CR; clear CS CR; have HB2 := Lib.hid (bel_then HB1.out hw2); clear hw2))))
    go_at_call 45
    refine (pace_Narrow_yes s r l A0 A1 A2 B2 B3 C n0 n1 n2 m2 m3 c0 c1 c2 d2 d3 l.length c _ (H0.out.below HB2.out) (H1.out.below HB2.out) (H2.out.below HB2.out) (G2.out.below HB2.out) (G3.out.below HB2.out) (HC.out.below HB2.out) HOK.out.1 HOK.out.2.1 HOK.out.2.2).mono ?_
    intro e w3 hpost
    obtain ⟨hw3, hp⟩ := hpost
    have CS := HCS.out.below hw3; have CR := HCR.out.below hw3; (try clear s0 s1 s2 s3); (try clear r0 r1 r2); have s0 := CS.cell 0; have s1 := CS.cell 1; have s2 := CS.cell 2; have s3 := CS.cell 3; have r0 := CR.cell 0; have r1 := CR.cell 1; have r2 := CR.cell 2; have HCS := Lib.hid CS; have HCR := Lib.hid CR; clear CS CR
    have HB3 := Lib.hid (bel_then HB2.out hw3)
    clear hw3
    rcases V with _ | _
    · obtain ⟨hv, Ap, cp, rfl, hrd⟩ | ⟨hv, _⟩ := hp
      rotate_left
      · rw [HV.out] at hv
        cases hv
      have HRD := Lib.hid hrd
      clear hv hrd
      go_wp2_with (first
        | (go_at_call 22; go_must ((refine (law_fine s r A0 A1 A2 B2 B3 n0 n1 n2 m2 m3 c0 c1 c2 d2 d3 _ (H0.out.below HB3.out) (H1.out.below HB3.out) (H2.out.below HB3.out) (G2.out.below HB3.out) (G3.out.below HB3.out)).mono ?_; rintro e w5 ⟨rfl, hw5⟩; have CS := HCS.out.below hw5; have CR := HCR.out.below hw5; (try clear s0 s1 s2 s3); (try clear r0 r1 r2); have s0 := CS.cell 0; have s1 := CS.cell 1; have s2 := CS.cell 2; have s3 := CS.cell 3; have r0 := CR.cell 0; have r1 := CR.cell 1; have r2 := CR.cell 2; have HCS := Lib.hid CS; have HCR := Lib.hid CR; clear CS CR; have HX5 := Lib.hid hw5; have HB5 := Lib.hid (bel_then HB3.out hw5); clear hw5)))
        | (go_at_call 36; go_must ((refine (ref3_Passings r l A0 A1 A2 C n0 n1 n2 c0 c1 c2 l.length c _ (H0.out.below HB5.out) (HC.out.below HB5.out) HOK.out.1.fit).mono ?_; rintro e w6 ⟨rfl, hw6⟩; have CS := HCS.out.below hw6; have CR := HCR.out.below hw6; (try clear s0 s1 s2 s3); (try clear r0 r1 r2); have s0 := CS.cell 0; have s1 := CS.cell 1; have s2 := CS.cell 2; have s3 := CS.cell 3; have r0 := CR.cell 0; have r1 := CR.cell 1; have r2 := CR.cell 2; have HCS := Lib.hid CS; have HCR := Lib.hid CR; clear CS CR; have HX6 := Lib.hid (bel_then HX5.out hw6); have HB6 := Lib.hid (bel_then HB5.out hw6); clear hw6))))
      go_at_call 46
      refine (ref3_Narrow s r l A0 A1 A2 B2 B3 C n0 n1 n2 m2 m3 c0 c1 c2 d2 d3 l.length c _ (H0.out.below HB6.out) (G2.out.below HB6.out) (G3.out.below HB6.out) (HC.out.below HB6.out) HOK.out.1 HOK.out.2.1 HOK.out.2.2).mono ?_
      intro e w7 hpost
      obtain ⟨hw7, hp⟩ := hpost
      obtain ⟨hv, Aw, cw, rfl, hrd⟩ | ⟨hv, _⟩ := hp
      rotate_left
      · rw [HV.out] at hv
        cases hv
      have HRW := Lib.hid hrd
      have HX7 := Lib.hid (bel_then HX6.out hw7)
      have HB7 := Lib.hid (bel_then HB6.out hw7)
      have hl2 := HOK.out.2.2.1
      clear hv hrd hw7
      go_wp2
      go_loopw [11] (fun v11 wr => ∃ k q : Nat, k ≤ l.length ∧ v11 = .int .i64 k ∧ wr = w7.drewN q) (fun v11 _ => l.length - (intOf v11).toNat)
      case atStart => exact ⟨0, 0, Nat.zero_le _, rfl, rfl⟩
      case round =>
        obtain ⟨k, q, hk, rfl, rfl⟩ := hrel
        by_cases hlt : k < l.length
        · obtain ⟨x, hx⟩ := HRW.out.get hlt
          obtain ⟨ad, e, x0, x1, x2⟩ := HRW.out.atPassing hx
          cases e
          obtain ⟨ad', e, y0, y1, y2⟩ := (HRD.out.below HX7.out).atPassing hx
          cases e
          clear hx
          go_wp2
          go_quiet (fail)
          go_wp2
          go_roundw
          case rel => exact ⟨k + 1, _, by omega, by go_num, by first | rfl | rw [World.drewN_drewN]⟩
          case measure => simp [intOf]; omega
        · obtain rfl : k = l.length := by omega
          go_wp2_with (go_at_call 18; go_must ((refine (known_ _ (HT.out.below (bel_drewN HB7.out _))).mono ?_; rintro e w9 ⟨rfl, hw9⟩)))
          go_ret
          exact ⟨rfl, bel_then (bel_drewN HB7.out _) hw9⟩
    · obtain ⟨hv, _⟩ | ⟨hv, rfl⟩ := hp
      · rw [HV.out] at hv
        cases hv
      clear hv
      go_wp2_with (first
        | (go_at_call 22; go_must ((refine (law_fine s r A0 A1 A2 B2 B3 n0 n1 n2 m2 m3 c0 c1 c2 d2 d3 _ (H0.out.below HB3.out) (H1.out.below HB3.out) (H2.out.below HB3.out) (G2.out.below HB3.out) (G3.out.below HB3.out)).mono ?_; rintro e w5 ⟨rfl, hw5⟩; have CS := HCS.out.below hw5; have CR := HCR.out.below hw5; (try clear s0 s1 s2 s3); (try clear r0 r1 r2); have s0 := CS.cell 0; have s1 := CS.cell 1; have s2 := CS.cell 2; have s3 := CS.cell 3; have r0 := CR.cell 0; have r1 := CR.cell 1; have r2 := CR.cell 2; have HCS := Lib.hid CS; have HCR := Lib.hid CR; clear CS CR; have HB5 := Lib.hid (bel_then HB3.out hw5); clear hw5)))
        | (go_at_call 36; go_must ((refine (ref3_Passings r l A0 A1 A2 C n0 n1 n2 c0 c1 c2 l.length c _ (H0.out.below HB5.out) (HC.out.below HB5.out) HOK.out.1.fit).mono ?_; rintro e w6 ⟨rfl, hw6⟩; have CS := HCS.out.below hw6; have CR := HCR.out.below hw6; (try clear s0 s1 s2 s3); (try clear r0 r1 r2); have s0 := CS.cell 0; have s1 := CS.cell 1; have s2 := CS.cell 2; have s3 := CS.cell 3; have r0 := CR.cell 0; have r1 := CR.cell 1; have r2 := CR.cell 2; have HCS := Lib.hid CS; have HCR := Lib.hid CR; clear CS CR; have HB6 := Lib.hid (bel_then HB5.out hw6); clear hw6))))
      go_at_call 46
      refine (ref3_Narrow s r l A0 A1 A2 B2 B3 C n0 n1 n2 m2 m3 c0 c1 c2 d2 d3 l.length c _ (H0.out.below HB6.out) (G2.out.below HB6.out) (G3.out.below HB6.out) (HC.out.below HB6.out) HOK.out.1 HOK.out.2.1 HOK.out.2.2).mono ?_
      intro e w7 hpost
      obtain ⟨hw7, hp⟩ := hpost
      obtain ⟨hv, _⟩ | ⟨hv, rfl⟩ := hp
      · rw [HV.out] at hv
        cases hv
      have HB7 := Lib.hid (bel_then HB6.out hw7)
      clear hv hw7
      go_wp2_with (go_at_call 18; go_must ((refine (known_ _ (HT.out.below HB7.out)).mono ?_; rintro e w9 ⟨rfl, hw9⟩)))
      go_ret
      exact ⟨rfl, bel_then HB7.out hw9⟩
  · have HNO := Lib.hid hok
    have hcases : bo (Fine r s) = false ∨ bo (Fine r s) = true ∧ bo (PassOk r.length l) = false := by
      by_cases hf : Fine r s
      · exact .inr ⟨bo_true hf, bo_false fun h => hok ⟨hf.1, hf.2, h⟩⟩
      · exact .inl (bo_false hf)
    clear hok
    rcases hcases with hfi | ⟨hfi, hco⟩
    all_goals
      go_enter Tryd.func10, Tryd.ntmps10
      go_wp2_with (first
        | (go_at_call 16; go_must ((refine (law_few r A0 A1 A2 n0 n1 n2 c0 c1 c2 _ (H0.out.below (by repeat (first | assumption | exact Below.refl _ _ | apply bel_alloc | apply bel_drew | apply bel_drewN | (refine bel_set ?_ (by first | assumption | omega | (simp; done) | (simp; omega)) _)))) E1.out E2.out).mono ?_; rintro e w1 ⟨rfl, hw1⟩; have CS : Blk w1 (w.heap.size + 1) 30 #[.int .i64 s.least, .int .i64 s.most, .slice B2 m2 d2, .slice B3 m3 d3] := (Blk.new_at _ _ _ _ (by simp)).below hw1; have CR : Blk w1 w.heap.size 26 #[.slice A0 n0 c0, .slice A1 n1 c1, .slice A2 n2 c2] := ((Blk.new _ _ _).alloc _).below hw1; have s0 := CS.cell 0; have s1 := CS.cell 1; have s2 := CS.cell 2; have s3 := CS.cell 3; have HCS := Lib.hid CS; have HCR := Lib.hid CR; clear CS CR; have hv1 : Below w.heap.size w w1 := bel_then (by repeat (first | assumption | exact Below.refl _ _ | apply bel_alloc | apply bel_drew | apply bel_drewN | (refine bel_set ?_ (by first | assumption | omega | (simp; done) | (simp; omega)) _))) hw1; have HB1 := Lib.hid hv1; clear hw1 hv1)))
        | (go_at_call 17; go_must ((refine (law_quick s B2 B3 m2 m3 d2 d3 _ F2.out F3.out).mono ?_; rintro e w2 ⟨rfl, hw2⟩; have CS := HCS.out.below hw2; have CR := HCR.out.below hw2; clear s0 s1 s2 s3; have s0 := CS.cell 0; have s1 := CS.cell 1; have s2 := CS.cell 2; have s3 := CS.cell 3; have r0 := CR.cell 0; have r1 := CR.cell 1; have r2 := CR.cell 2; have HCS := Lib.hid CS; have HCR := Lib.hid CR; clear CS CR; have HB2 := Lib.hid (bel_then HB1.out hw2); clear hw2)))
        | (go_at_call 45; go_must ((refine (pace_Narrow_no s r l A0 A1 A2 B2 B3 C n0 n1 n2 m2 m3 c0 c1 c2 d2 d3 l.length c _ (H0.out.below HB2.out) (H1.out.below HB2.out) (H2.out.below HB2.out) (G2.out.below HB2.out) (G3.out.below HB2.out) (HC.out.below HB2.out) HNO.out).mono ?_; rintro e w3 ⟨rfl, hw3⟩; have CS := HCS.out.below hw3; have CR := HCR.out.below hw3; (try clear s0 s1 s2 s3); (try clear r0 r1 r2); have s0 := CS.cell 0; have s1 := CS.cell 1; have s2 := CS.cell 2; have s3 := CS.cell 3; have r0 := CR.cell 0; have r1 := CR.cell 1; have r2 := CR.cell 2; have HCS := Lib.hid CS; have HCR := Lib.hid CR; clear CS CR; have HB3 := Lib.hid (bel_then HB2.out hw3); clear hw3)))
        | (go_at_call 22; go_must ((refine (law_fine s r A0 A1 A2 B2 B3 n0 n1 n2 m2 m3 c0 c1 c2 d2 d3 _ (H0.out.below HB3.out) (H1.out.below HB3.out) (H2.out.below HB3.out) (G2.out.below HB3.out) (G3.out.below HB3.out)).mono ?_; rintro e w5 ⟨rfl, hw5⟩; have CS := HCS.out.below hw5; have CR := HCR.out.below hw5; (try clear s0 s1 s2 s3); (try clear r0 r1 r2); have s0 := CS.cell 0; have s1 := CS.cell 1; have s2 := CS.cell 2; have s3 := CS.cell 3; have r0 := CR.cell 0; have r1 := CR.cell 1; have r2 := CR.cell 2; have HCS := Lib.hid CS; have HCR := Lib.hid CR; clear CS CR; have HB5 := Lib.hid (bel_then HB3.out hw5); clear hw5)))
        | (go_at_call 36; go_must ((refine (ref3_Passings r l A0 A1 A2 C n0 n1 n2 c0 c1 c2 l.length c _ (H0.out.below HB5.out) (HC.out.below HB5.out) (bo_iff.1 hfi).1.fit).mono ?_; rintro e w6 ⟨rfl, hw6⟩; have CS := HCS.out.below hw6; have CR := HCR.out.below hw6; (try clear s0 s1 s2 s3); (try clear r0 r1 r2); have s0 := CS.cell 0; have s1 := CS.cell 1; have s2 := CS.cell 2; have s3 := CS.cell 3; have r0 := CR.cell 0; have r1 := CR.cell 1; have r2 := CR.cell 2; have HCS := Lib.hid CS; have HCR := Lib.hid CR; clear CS CR; have HB6 := Lib.hid (bel_then HB5.out hw6); clear hw6)))
        | (go_at_call 18; go_must (((first | refine (known_ _ (HT.out.below HB6.out)).mono ?_ | refine (known_ _ (HT.out.below HB5.out)).mono ?_); rintro e w8 ⟨rfl, hw8⟩))))
      go_ret
      first | exact ⟨rfl, bel_then HB6.out hw8⟩ | exact ⟨rfl, bel_then HB5.out hw8⟩
end Go.Proofs.YtinglbcafcjhfaaDoor
