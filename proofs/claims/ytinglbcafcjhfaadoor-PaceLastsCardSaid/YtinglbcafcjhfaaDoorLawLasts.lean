/- The walk of the law PaceLasts. -/
import Derived.Test.YtinglbcafcjhfaaDoorLastsB
import Derived.Test.YtinglbcafcjhfaaDoorLawA
import Derived.Lib.QuietBelow
namespace Go.Proofs.YtinglbcafcjhfaaDoor
open Go.RowKit
set_option linter.unusedVariables false
set_option linter.unusedSimpArgs false

def TrueBelow (w : World) (e : Ending) (w' : World) : Prop := e = .returned (.bool true) ∧ Below w.heap.size w w'
set_option maxRecDepth 100000 in
set_option maxHeartbeats 2000000 in
theorem law_PaceLasts (n : Note) (v : Speech) (w : World) (ht : Tab w) :
    Calls Tryd.prog 4 #[.agg n.cells, .agg #[.int .i64 v.note, .int .i64 v.letter]] w (TrueBelow w) := by
  have HT := Lib.hid ht
  clear ht
  by_cases hok : n.Valid ∧ v.Valid
  · have hb1 := bo_true hok.1
    have hb2 := bo_true hok.2
    have HOK := Lib.hid hok
    clear hok
    go_enter Tryd.func4, Tryd.ntmps4
    go_wp2_with (first
      | (go_at_call 25; go_must ((refine (pace_Lasts n v _ HOK.out.1 HOK.out.2 (HT.out.below (by repeat (first | assumption | exact Below.refl _ _ | apply bel_alloc | apply bel_drew | apply bel_drewN | (refine bel_set ?_ (by first | assumption | omega | (simp; done) | (simp; omega)) _))))).mono ?_; rintro e w1 ⟨rfl, hw1⟩; have CN : Blk w1 w.heap.size 45 n.cells := ((Blk.new w _ _).alloc _).below hw1; have CV : Blk w1 (w.heap.size + 1) 47 #[.int .i64 v.note, .int .i64 v.letter] := (Blk.new_at _ _ _ _ (by simp)).below hw1; (try clear n0 n1 n2 n3 n4 n5 n6 n7 n8 n9 v0 v1); have n0 := CN.cell 0; have n1 := CN.cell 1; have n2 := CN.cell 2; have n3 := CN.cell 3; have n4 := CN.cell 4; have n5 := CN.cell 5; have n6 := CN.cell 6; have n7 := CN.cell 7; have n8 := CN.cell 8; have n9 := CN.cell 9; have v0 := CV.cell 0; have v1 := CV.cell 1; have HCN := Lib.hid CN; have HCV := Lib.hid CV; clear CN CV; have hv1 : Below w.heap.size w w1 := bel_then (by repeat (first | assumption | exact Below.refl _ _ | apply bel_alloc | apply bel_drew | apply bel_drewN | (refine bel_set ?_ (by first | assumption | omega | (simp; done) | (simp; omega)) _))) hw1; have HB1 := Lib.hid hv1; clear hw1 hv1)))
      | (go_at_call 26; go_must ((refine (ref2_Valid n _).mono ?_; rintro e w2 ⟨rfl, hw2⟩; have CN : Blk w2 w.heap.size 45 n.cells := HCN.out.below hw2; have CV : Blk w2 (w.heap.size + 1) 47 #[.int .i64 v.note, .int .i64 v.letter] := HCV.out.below hw2; (try clear n0 n1 n2 n3 n4 n5 n6 n7 n8 n9 v0 v1); have n0 := CN.cell 0; have n1 := CN.cell 1; have n2 := CN.cell 2; have n3 := CN.cell 3; have n4 := CN.cell 4; have n5 := CN.cell 5; have n6 := CN.cell 6; have n7 := CN.cell 7; have n8 := CN.cell 8; have n9 := CN.cell 9; have v0 := CV.cell 0; have v1 := CV.cell 1; have HCN := Lib.hid CN; have HCV := Lib.hid CV; clear CN CV; have HB2 := Lib.hid (bel_then HB1.out hw2); clear hw2)))
      | (go_at_call 27; go_must ((refine (ref3_Speech v _).mono ?_; rintro e w3 ⟨rfl, hw3⟩; have CN : Blk w3 w.heap.size 45 n.cells := HCN.out.below hw3; have CV : Blk w3 (w.heap.size + 1) 47 #[.int .i64 v.note, .int .i64 v.letter] := HCV.out.below hw3; (try clear n0 n1 n2 n3 n4 n5 n6 n7 n8 n9 v0 v1); have n0 := CN.cell 0; have n1 := CN.cell 1; have n2 := CN.cell 2; have n3 := CN.cell 3; have n4 := CN.cell 4; have n5 := CN.cell 5; have n6 := CN.cell 6; have n7 := CN.cell 7; have n8 := CN.cell 8; have n9 := CN.cell 9; have v0 := CV.cell 0; have v1 := CV.cell 1; have HCN := Lib.hid CN; have HCV := Lib.hid CV; clear CN CV; have HB3 := Lib.hid (bel_then HB2.out hw3); clear hw3))))
    have k0 := cell_regrown (show w3.cell? ⟨w.heap.size, 0, none⟩ = some (.int .i64 n.kind) from HCN.out.cell 0)
    have k1 := cell_regrown (show w3.cell? ⟨w.heap.size, 1, none⟩ = some (.int .i64 n.turn) from HCN.out.cell 1)
    have k2 := cell_regrown (show w3.cell? ⟨w.heap.size, 2, none⟩ = some (.int .i64 n.grade) from HCN.out.cell 2)
    have k3 := cell_regrown (show w3.cell? ⟨w.heap.size, 3, none⟩ = some (.int .i64 n.long) from HCN.out.cell 3)
    have k4 := cell_regrown (show w3.cell? ⟨w.heap.size, 4, none⟩ = some (.int .i64 n.change) from HCN.out.cell 4)
    have k5 := cell_regrown (show w3.cell? ⟨w.heap.size, 5, none⟩ = some (.int .i64 n.to_) from HCN.out.cell 5)
    have k6 := cell_regrown (show w3.cell? ⟨w.heap.size, 6, none⟩ = some (.int .i64 n.meters) from HCN.out.cell 6)
    have k7 := cell_regrown (show w3.cell? ⟨w.heap.size, 7, none⟩ = some (.int .i64 n.size) from HCN.out.cell 7)
    have k8 := cell_regrown (show w3.cell? ⟨w.heap.size, 8, none⟩ = some (.int .i64 n.way) from HCN.out.cell 8)
    have k9 := cell_regrown (show w3.cell? ⟨w.heap.size, 9, none⟩ = some (.int .i64 n.arms) from HCN.out.cell 9)
    have u0 := cell_regrown (show w3.cell? ⟨w.heap.size + 1, 0, none⟩ = some (.int .i64 v.note) from HCV.out.cell 0)
    have u1 := cell_regrown (show w3.cell? ⟨w.heap.size + 1, 1, none⟩ = some (.int .i64 v.letter) from HCV.out.cell 1)
    refine wp_region_quiet_below (by kernel_rfl) (by kernel_rfl) ?_; (repeat (go_big_quiet_step ((first | (go_at_call 29; exact Calls.regrown_of (ref2_Text n _ HOK.out.1 (HT.out.below (bel_then HB3.out (below_regrown w3 _ _))))) | (go_at_call 28; exact Calls.regrown_of (ref3_Lasts (textOf n) v _ (textOf_length HOK.out.1) HOK.out.2)) | (go_at_call 18; exact Calls.regrown_of (known_ _ (HT.out.below (bel_then HB3.out (below_regrown w3 _ _))))))))); refine wpQuiet_nil ?_; intro _ hw'; obtain ⟨⟨dq, osq⟩, hw''⟩ := hw'; subst hw''
    clear k0 k1 k2 k3 k4 k5 k6 k7 k8 k9 u0 u1
    go_wp2
    go_ret
    exact ⟨rfl, bel_then HB3.out (below_regrown w3 _ _)⟩
  · have HNO := Lib.hid hok
    rcases hb1 : bo n.Valid <;> rcases hb2 : bo v.Valid
    case true.true => exact absurd ⟨bo_iff.1 hb1, bo_iff.1 hb2⟩ hok
    all_goals
      clear hok
      go_enter Tryd.func4, Tryd.ntmps4
      go_wp2_with (first
        | (go_at_call 25; go_must ((refine (pace_Lasts_no n v _ HNO.out).mono ?_; rintro e w1 ⟨rfl, hw1⟩; have CN : Blk w1 w.heap.size 45 n.cells := ((Blk.new w _ _).alloc _).below hw1; have CV : Blk w1 (w.heap.size + 1) 47 #[.int .i64 v.note, .int .i64 v.letter] := (Blk.new_at _ _ _ _ (by simp)).below hw1; (try clear n0 n1 n2 n3 n4 n5 n6 n7 n8 n9 v0 v1); have n0 := CN.cell 0; have n1 := CN.cell 1; have n2 := CN.cell 2; have n3 := CN.cell 3; have n4 := CN.cell 4; have n5 := CN.cell 5; have n6 := CN.cell 6; have n7 := CN.cell 7; have n8 := CN.cell 8; have n9 := CN.cell 9; have v0 := CV.cell 0; have v1 := CV.cell 1; have HCN := Lib.hid CN; have HCV := Lib.hid CV; clear CN CV; have hv1 : Below w.heap.size w w1 := bel_then (by repeat (first | assumption | exact Below.refl _ _ | apply bel_alloc | apply bel_drew | apply bel_drewN | (refine bel_set ?_ (by first | assumption | omega | (simp; done) | (simp; omega)) _))) hw1; have HB1 := Lib.hid hv1; clear hw1 hv1)))
        | (go_at_call 26; go_must ((refine (ref2_Valid n _).mono ?_; rintro e w2 ⟨rfl, hw2⟩; have CN : Blk w2 w.heap.size 45 n.cells := HCN.out.below hw2; have CV : Blk w2 (w.heap.size + 1) 47 #[.int .i64 v.note, .int .i64 v.letter] := HCV.out.below hw2; (try clear n0 n1 n2 n3 n4 n5 n6 n7 n8 n9 v0 v1); have n0 := CN.cell 0; have n1 := CN.cell 1; have n2 := CN.cell 2; have n3 := CN.cell 3; have n4 := CN.cell 4; have n5 := CN.cell 5; have n6 := CN.cell 6; have n7 := CN.cell 7; have n8 := CN.cell 8; have n9 := CN.cell 9; have v0 := CV.cell 0; have v1 := CV.cell 1; have HCN := Lib.hid CN; have HCV := Lib.hid CV; clear CN CV; have HB2 := Lib.hid (bel_then HB1.out hw2); clear hw2)))
        | (go_at_call 27; go_must ((refine (ref3_Speech v _).mono ?_; rintro e w3 ⟨rfl, hw3⟩; have CN : Blk w3 w.heap.size 45 n.cells := HCN.out.below hw3; have CV : Blk w3 (w.heap.size + 1) 47 #[.int .i64 v.note, .int .i64 v.letter] := HCV.out.below hw3; (try clear n0 n1 n2 n3 n4 n5 n6 n7 n8 n9 v0 v1); have n0 := CN.cell 0; have n1 := CN.cell 1; have n2 := CN.cell 2; have n3 := CN.cell 3; have n4 := CN.cell 4; have n5 := CN.cell 5; have n6 := CN.cell 6; have n7 := CN.cell 7; have n8 := CN.cell 8; have n9 := CN.cell 9; have v0 := CV.cell 0; have v1 := CV.cell 1; have HCN := Lib.hid CN; have HCV := Lib.hid CV; clear CN CV; have HB3 := Lib.hid (bel_then HB2.out hw3); clear hw3)))
        | (go_at_call 18; go_must (((first | refine (known_ _ (HT.out.below HB3.out)).mono ?_ | refine (known_ _ (HT.out.below HB2.out)).mono ?_); rintro e w4 ⟨rfl, hw4⟩))))
      go_ret
      first | exact ⟨rfl, bel_then HB3.out hw4⟩ | exact ⟨rfl, bel_then HB2.out hw4⟩
end Go.Proofs.YtinglbcafcjhfaaDoor
