/- Contracts of the small functions of package road: which roads are as defined, and a road's length. -/
import Derived.Test.YtinglbcafcjhfaaDoorProg
import Derived.Test.YtinglbcafcjhfaaDoorBase
namespace Go.Proofs.YtinglbcafcjhfaaDoor
open Go.RowKit
set_option linter.unusedVariables false
set_option linter.unusedSimpArgs false

theorem road_within (x a b : Int) (w : World) : Calls Tryd.prog 100 #[.int .i64 x, .int .i64 a, .int .i64 b] w fun e w' => e = .returned (.bool (inB x a b)) ∧ w = w' := by
  by_cases h : a ≤ x
  · have h1 : decide (a ≤ x) = true := decide_eq_true h
    go_enter Tryd.func100, Tryd.ntmps100
    go_wp2
    go_ret
    exact ⟨by simp [inB, h], rfl⟩
  · have h1 : decide (a ≤ x) = false := decide_eq_false h
    go_enter Tryd.func100, Tryd.ntmps100
    go_wp2
    go_ret
    exact ⟨by simp [inB]; omega, rfl⟩

set_option maxHeartbeats 400000 in
theorem road_piece (p : Piece) (w : World) : Calls Tryd.prog 110 #[.agg #[.int .i64 p.len, .int .i64 p.turn, .int .i64 p.radius, .int .i64 p.width, .int .i64 p.surface]] w fun e w' => e = .returned (.bool (bo p.Ok)) ∧ Below w.heap.size w w' := by
  obtain ⟨a, b, c, d, f⟩ := p
  dsimp only
  go_enter Tryd.func110, Tryd.ntmps110
  go_wp2_with (go_at_call 100; refine (road_within _ _ _ _).mono ?_; rintro e w' ⟨rfl, rfl⟩)
  all_goals
    go_ret
    refine ⟨ret_bo ?_, (by repeat (first | assumption | exact Below.refl _ _ | apply bel_alloc | apply bel_drew | apply bel_drewN | (refine bel_set ?_ (by first | assumption | omega | (simp; done) | (simp; omega)) _)))⟩
    go_light; simp only [inB_iff, inB_iff_false, Bool.not_eq_true, Bool.not_eq_true', Bool.not_eq_false', bne_iff_ne, bne_eq_false_iff_eq, beq_iff_eq, beq_eq_false_iff_ne, ne_eq, decide_eq_true_eq, decide_eq_false_iff_not, true_iff, false_iff, iff_true, iff_false, reduceCtorEq, Bool.and_eq_true, Bool.or_eq_true] at *
    simp only [Piece.Ok]
    omega

end Go.Proofs.YtinglbcafcjhfaaDoor
