/- The examples that each statement checks: the contract of known. -/
import Derived.Test.YtinglbcafcjhfaaDoorKnownA
import Derived.Test.YtinglbcafcjhfaaDoorLastsA
namespace Go.Proofs.YtinglbcafcjhfaaDoor
open Go.RowKit
set_option linter.unusedVariables false
set_option linter.unusedSimpArgs false
theorem known_lasts (w : World) (ht : Tab w) : Calls Tryd.prog 25 #[.agg #[.int .i64 1, .int .i64 1, .int .i64 3, .int .i64 1, .int .i64 0, .int .i64 0, .int .i64 0, .int .i64 0, .int .i64 0, .int .i64 0], .agg #[.int .i64 500000, .int .i64 100000]] w fun e w' => e = .returned (.tuple #[.int .i64 1100000, .int .i64 0]) ∧ Below w.heap.size w w' := by
  have h := pace_Lasts ⟨1, 1, 3, 1, 0, 0, 0, 0, 0, 0⟩ ⟨500000, 100000⟩ w (by simp [Note.Valid]) (by simp [Speech.Valid]) ht
  have e : spent 500000 100000 (textOf ⟨1, 1, 3, 1, 0, 0, 0, 0, 0, 0⟩) = 1100000 := by decide +kernel
  rw [show (⟨500000, 100000⟩ : Speech).note = 500000 from rfl, show (⟨500000, 100000⟩ : Speech).letter = 100000 from rfl, e] at h
  exact h
theorem known_between (B1 B2 B3 : Nat) (w : World) (h0 : Rd 5 Piece.enc w (some ⟨B1, 0, none⟩) 1 strR.pieces) (g2 : Rd 3 SpeedRow.enc w (some ⟨B2, 0, none⟩) 1 strS.rows) (g3 : Rd 1 intEnc w (some ⟨B3, 0, none⟩) 9 strS.surface) :
    Calls Tryd.prog 19 #[.agg #[.slice (some ⟨B1, 0, none⟩) 1 1, .slice none 0 0, .slice none 0 0], .agg #[.int .i64 100, .int .i64 200, .slice (some ⟨B2, 0, none⟩) 1 1, .slice (some ⟨B3, 0, none⟩) 9 9], .int .i64 0, .int .i64 1000] w fun e w' => e = .returned (.tuple #[.int .i64 50000000, .int .i64 100000000, .int .i64 0]) ∧ Below w.heap.size w w' := by
  have h := pace_Between_yes strS strR (some ⟨B1, 0, none⟩) none none (some ⟨B2, 0, none⟩) (some ⟨B3, 0, none⟩) 1 0 0 1 9 1 0 0 1 9 0 1000 w h0 Rd.nil Rd.nil g2 g3 ⟨strR_valid, strS_valid, by decide, by decide, by rw [strR_length]; decide⟩
  rw [show btwL strS strR 0 1000 = 50000000 by unfold btwL; rw [str_at1 (by decide) (by decide), str_at1 (by decide) (by decide)]; rfl, show btwM strS strR 0 1000 = 100000000 by unfold btwM; rw [str_at2 (by decide) (by decide), str_at2 (by decide) (by decide)]; rfl] at h
  exact h
theorem known_plan (l : List Call) (B1 B2 B3 B4 n : Nat) (w : World) (h0 : Rd 5 Piece.enc w (some ⟨B1, 0, none⟩) 1 strR.pieces) (g2 : Rd 3 SpeedRow.enc w (some ⟨B2, 0, none⟩) 1 strS.rows) (g3 : Rd 1 intEnc w (some ⟨B3, 0, none⟩) 9 strS.surface) (hc : Rd 5 Call.enc w (some ⟨B4, 0, none⟩) n l) (hl : CallsOk strR.length l) :
    Calls Tryd.prog 31 #[.agg #[.slice (some ⟨B1, 0, none⟩) 1 1, .slice none 0 0, .slice none 0 0], .agg #[.int .i64 100, .int .i64 200, .slice (some ⟨B2, 0, none⟩) 1 1, .slice (some ⟨B3, 0, none⟩) 9 9], .slice (some ⟨B4, 0, none⟩) n n] w (PlanPost (sumsOf strS strR) l w) :=
  pace_Plan_yes strS strR l (some ⟨B1, 0, none⟩) none none (some ⟨B2, 0, none⟩) (some ⟨B3, 0, none⟩) (some ⟨B4, 0, none⟩) 1 0 0 1 9 1 0 0 1 9 n n w h0 Rd.nil Rd.nil g2 g3 hc strR_valid strS_valid hl
set_option maxRecDepth 100000 in
set_option maxHeartbeats 4000000 in
theorem known_ (w : World) (ht : Tab w) : Calls Tryd.prog 18 #[] w (KnownPost w) := by
  have HT := Lib.hid ht
  clear ht
  go_enter Tryd.func18, Tryd.ntmps18
  go_wp2_with fail
  refine (straight_ _).mono ?_
  rintro e w1 ⟨B1, B2, B3, rfl, q1, q2, q3, hw1⟩
  have Q1 := Lib.hid q1
  have Q2 := Lib.hid q2
  have Q3 := Lib.hid q3
  have hu1 : Below w.heap.size w w1 := hw1
  have HB1 := Lib.hid hu1
  clear q1 q2 q3 hw1 hu1
  go_wp2_with fail
  refine (known_between B1 B2 B3 _ (Q1.out.below (by repeat (first | assumption | exact Below.refl _ _ | apply bel_alloc | apply bel_drew | apply bel_drewN | (refine bel_set ?_ (by first | assumption | omega | (simp; done) | (simp; omega)) _)))) (Q2.out.below (by repeat (first | assumption | exact Below.refl _ _ | apply bel_alloc | apply bel_drew | apply bel_drewN | (refine bel_set ?_ (by first | assumption | omega | (simp; done) | (simp; omega)) _)))) (Q3.out.below (by repeat (first | assumption | exact Below.refl _ _ | apply bel_alloc | apply bel_drew | apply bel_drewN | (refine bel_set ?_ (by first | assumption | omega | (simp; done) | (simp; omega)) _))))).mono ?_
  rintro e w2 ⟨rfl, hw2⟩
  have CR : Blk w2 w1.heap.size 26 #[.slice (some ⟨B1, 0, none⟩) 1 1, .slice none 0 0, .slice none 0 0] := ((Blk.new w1 _ _).alloc _).below hw2
  have CS : Blk w2 (w1.heap.size + 1) 30 #[.int .i64 100, .int .i64 200, .slice (some ⟨B2, 0, none⟩) 1 1, .slice (some ⟨B3, 0, none⟩) 9 9] := (Blk.new_at _ _ _ _ (by simp)).below hw2
  have r0 := CR.cell 0
  have r1 := CR.cell 1
  have r2 := CR.cell 2
  have s0 := CS.cell 0
  have s1 := CS.cell 1
  have s2 := CS.cell 2
  have s3 := CS.cell 3
  have lr := CR.lt
  have ls := CS.lt
  have HCR := Lib.hid CR
  have HCS := Lib.hid CS
  clear CR CS
  have hv2 : Below w1.heap.size w1 w2 := bel_then (by repeat (first | assumption | exact Below.refl _ _ | apply bel_alloc | apply bel_drew | apply bel_drewN | (refine bel_set ?_ (by first | assumption | omega | (simp; done) | (simp; omega)) _))) hw2
  have HB2 := Lib.hid hv2
  clear hw2 hv2
  go_wp2_with fail
  refine (known_plan kC1 B1 B2 B3 _ 2 _ (Q1.out.below (bel_then HB2.out (by repeat (first | assumption | exact Below.refl _ _ | apply bel_alloc | apply bel_drew | apply bel_drewN | (refine bel_set ?_ (by first | assumption | omega | (simp; done) | (simp; omega)) _))))) (Q2.out.below (bel_then HB2.out (by repeat (first | assumption | exact Below.refl _ _ | apply bel_alloc | apply bel_drew | apply bel_drewN | (refine bel_set ?_ (by first | assumption | omega | (simp; done) | (simp; omega)) _))))) (Q3.out.below (bel_then HB2.out (by repeat (first | assumption | exact Below.refl _ _ | apply bel_alloc | apply bel_drew | apply bel_drewN | (refine bel_set ?_ (by first | assumption | omega | (simp; done) | (simp; omega)) _))))) (by exact rd_of_blk Call.enc_len kC1 2 rfl (by omega) (Blk.new w2 75 _) rfl) kC1_ok).mono ?_
  intro e w3 hp
  obtain ⟨⟨A, cc, hrd, hcc, rfl⟩, hw3⟩ := known_plan1 hp
  have HRD := Lib.hid hrd
  clear hp hrd
  clear r0 r1 r2 s0 s1 s2 s3 lr ls
  have CR : Blk w3 w1.heap.size 26 #[.slice (some ⟨B1, 0, none⟩) 1 1, .slice none 0 0, .slice none 0 0] := ((HCR.out).alloc _).below hw3
  have CS : Blk w3 (w1.heap.size + 1) 30 #[.int .i64 100, .int .i64 200, .slice (some ⟨B2, 0, none⟩) 1 1, .slice (some ⟨B3, 0, none⟩) 9 9] := ((HCS.out).alloc _).below hw3
  have r0 := CR.cell 0
  have r1 := CR.cell 1
  have r2 := CR.cell 2
  have s0 := CS.cell 0
  have s1 := CS.cell 1
  have s2 := CS.cell 2
  have s3 := CS.cell 3
  have lr := CR.lt
  have ls := CS.lt
  have HCR := Lib.hid CR
  have HCS := Lib.hid CS
  clear CR CS
  have hv3 : Below w2.heap.size w2 w3 := bel_then (by repeat (first | assumption | exact Below.refl _ _ | apply bel_alloc | apply bel_drew | apply bel_drewN | (refine bel_set ?_ (by first | assumption | omega | (simp; done) | (simp; omega)) _))) hw3
  have HB3 := Lib.hid hv3
  clear hw3 hv3
  go_wp2_with fail
  refine (known_lasts _ (HT.out.below (bel_then HB1.out (bel_then HB2.out (bel_then HB3.out (by repeat (first | assumption | exact Below.refl _ _ | apply bel_alloc | apply bel_drew | apply bel_drewN | (refine bel_set ?_ (by first | assumption | omega | (simp; done) | (simp; omega)) _)))))))).mono ?_
  rintro e w4 ⟨rfl, hw4⟩
  clear r0 r1 r2 s0 s1 s2 s3 lr ls
  have CR : Blk w4 w1.heap.size 26 #[.slice (some ⟨B1, 0, none⟩) 1 1, .slice none 0 0, .slice none 0 0] := ((HCR.out).alloc _).below hw4
  have CS : Blk w4 (w1.heap.size + 1) 30 #[.int .i64 100, .int .i64 200, .slice (some ⟨B2, 0, none⟩) 1 1, .slice (some ⟨B3, 0, none⟩) 9 9] := ((HCS.out).alloc _).below hw4
  have r0 := CR.cell 0
  have r1 := CR.cell 1
  have r2 := CR.cell 2
  have s0 := CS.cell 0
  have s1 := CS.cell 1
  have s2 := CS.cell 2
  have s3 := CS.cell 3
  have lr := CR.lt
  have ls := CS.lt
  have HCR := Lib.hid CR
  have HCS := Lib.hid CS
  clear CR CS
  have hv4 : Below w3.heap.size w3 w4 := bel_then (by repeat (first | assumption | exact Below.refl _ _ | apply bel_alloc | apply bel_drew | apply bel_drewN | (refine bel_set ?_ (by first | assumption | omega | (simp; done) | (simp; omega)) _))) hw4
  have HB4 := Lib.hid hv4
  clear hw4 hv4
  go_wp2_with fail
  refine (known_plan kC2 B1 B2 B3 _ 1 _ (Q1.out.below (bel_then HB2.out (bel_then HB3.out (bel_then HB4.out (by repeat (first | assumption | exact Below.refl _ _ | apply bel_alloc | apply bel_drew | apply bel_drewN | (refine bel_set ?_ (by first | assumption | omega | (simp; done) | (simp; omega)) _))))))) (Q2.out.below (bel_then HB2.out (bel_then HB3.out (bel_then HB4.out (by repeat (first | assumption | exact Below.refl _ _ | apply bel_alloc | apply bel_drew | apply bel_drewN | (refine bel_set ?_ (by first | assumption | omega | (simp; done) | (simp; omega)) _))))))) (Q3.out.below (bel_then HB2.out (bel_then HB3.out (bel_then HB4.out (by repeat (first | assumption | exact Below.refl _ _ | apply bel_alloc | apply bel_drew | apply bel_drewN | (refine bel_set ?_ (by first | assumption | omega | (simp; done) | (simp; omega)) _))))))) (by exact rd_of_blk Call.enc_len kC2 1 rfl (by omega) (Blk.new w4 75 _) rfl) kC2_ok).mono ?_
  intro e w5 hp
  obtain ⟨rfl, hw5⟩ := known_plan2 hp
  clear hp
  clear r0 r1 r2 s0 s1 s2 s3 lr ls
  have hv5 : Below w4.heap.size w4 w5 := bel_then (by repeat (first | assumption | exact Below.refl _ _ | apply bel_alloc | apply bel_drew | apply bel_drewN | (refine bel_set ?_ (by first | assumption | omega | (simp; done) | (simp; omega)) _))) hw5
  have HB5 := Lib.hid hv5
  clear hw5 hv5
  go_wp2_with fail
  refine (ref_Same [440, 540] [440, 540] A _ 2 2 cc 2 _ (HRD.out.below (bel_then HB4.out (bel_then HB5.out (by repeat (first | assumption | exact Below.refl _ _ | apply bel_alloc | apply bel_drew | apply bel_drewN | (refine bel_set ?_ (by first | assumption | omega | (simp; done) | (simp; omega)) _)))))) (by exact rd_of_blk intEnc_len [440, 540] 2 rfl (by omega) (Blk.new_at _ _ 3 _ (by simp)) rfl)).mono ?_
  rintro e w' ⟨rfl, q, rfl⟩
  go_wp2_with fail
  go_ret
  exact ⟨rfl, bel_then HB1.out (bel_then HB2.out (bel_then HB3.out (bel_then HB4.out (bel_then HB5.out (by repeat (first | assumption | exact Below.refl _ _ | apply bel_alloc | apply bel_drew | apply bel_drewN | (refine bel_set ?_ (by first | assumption | omega | (simp; done) | (simp; omega)) _)))))))⟩
end Go.Proofs.YtinglbcafcjhfaaDoor
