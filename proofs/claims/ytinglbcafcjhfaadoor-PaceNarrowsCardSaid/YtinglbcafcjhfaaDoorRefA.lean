/- Contracts of the reference of package road: which roads are as defined, and their length. -/
import Derived.Test.YtinglbcafcjhfaaDoorRoadB
import Derived.Test.YtinglbcafcjhfaaDoorPaceBase
import Derived.Outline
import Derived.Deep.DeepMust
namespace Go.Proofs.YtinglbcafcjhfaaDoor
open Go.RowKit
set_option linter.unusedVariables false
set_option linter.unusedSimpArgs false

theorem ref1_in (x a b : Int) (w : World) : Calls Tryd.prog 82 #[.int .i64 x, .int .i64 a, .int .i64 b] w fun e w' => e = .returned (.bool (inB x a b)) ∧ w = w' := by
  by_cases h : a ≤ x
  · have h1 : decide (a ≤ x) = true := decide_eq_true h
    go_enter Tryd.func82, Tryd.ntmps82
    go_wp2
    go_ret
    exact ⟨by simp [inB, h], rfl⟩
  · have h1 : decide (a ≤ x) = false := decide_eq_false h
    go_enter Tryd.func82, Tryd.ntmps82
    go_wp2
    go_ret
    exact ⟨by simp [inB]; omega, rfl⟩
set_option maxHeartbeats 400000 in
theorem ref1_Piece (p : Piece) (w : World) : Calls Tryd.prog 83 #[.agg #[.int .i64 p.len, .int .i64 p.turn, .int .i64 p.radius, .int .i64 p.width, .int .i64 p.surface]] w fun e w' => e = .returned (.bool (bo p.Ok)) ∧ Below w.heap.size w w' := by
  obtain ⟨a, b, c, d, f⟩ := p
  dsimp only
  go_enter Tryd.func83, Tryd.ntmps83
  go_wp2_with (go_at_call 82; refine (ref1_in _ _ _ _).mono ?_; rintro e w' ⟨rfl, rfl⟩)
  all_goals
    go_ret
    refine ⟨ret_bo ?_, (by repeat (first | assumption | exact Below.refl _ _ | apply bel_alloc | apply bel_drew | apply bel_drewN | (refine bel_set ?_ (by first | assumption | omega | (simp; done) | (simp; omega)) _)))⟩
    go_light; simp only [inB_iff, inB_iff_false, Bool.not_eq_true, Bool.not_eq_true', Bool.not_eq_false', bne_iff_ne, bne_eq_false_iff_eq, beq_iff_eq, beq_eq_false_iff_ne, ne_eq, decide_eq_true_eq, decide_eq_false_iff_not, true_iff, false_iff, iff_true, iff_false, reduceCtorEq, Bool.and_eq_true, Bool.or_eq_true] at *
    simp only [Piece.Ok]
    omega
set_option maxRecDepth 100000 in
set_option maxHeartbeats 1000000 in
theorem ref1_Length (r : Road) (A0 A1 A2 : Option Addr) (n0 n1 n2 c0 c1 c2 : Nat) (w : World) (h0 : Rd 5 Piece.enc w A0 n0 r.pieces) (hf : r.Fit) :
    Calls Tryd.prog 84 #[.agg #[.slice A0 n0 c0, .slice A1 n1 c1, .slice A2 n2 c2]] w fun e w' => e = .returned (.int .i64 r.length) ∧ Below w.heap.size w w' := by
  have m0 := h0.2.1
  have hn : n0 ≤ 1000000 := by rw [← h0.1]; exact hf.1
  have H0 := Lib.hid h0
  have HF := Lib.hid hf
  clear h0 hf
  go_enter Tryd.func84, Tryd.ntmps84
  go_wp2
  obtain ⟨W1, hW1⟩ : ∃ W1, w.alloc (.cells #[.slice A0 n0 c0, .slice A1 n1 c1, .slice A2 n2 c2] 26) = W1 := ⟨_, rfl⟩
  have HB : Below w.heap.size w W1 := by rw [← hW1]; exact (by repeat (first | assumption | exact Below.refl _ _ | apply bel_alloc | apply bel_drew | apply bel_drewN | (refine bel_set ?_ (by first | assumption | omega | (simp; done) | (simp; omega)) _)))
  have HT : Blk W1 w.heap.size 26 #[.slice A0 n0 c0, .slice A1 n1 c1, .slice A2 n2 c2] := by rw [← hW1]; exact Blk.new _ _ _
  rw [hW1]
  clear hW1
  have k0 := HT.cell 0
  clear HT
  go_loop [3, 4] (fun v3 v4 => ∃ k : Nat, k ≤ n0 ∧ v4 = .int .i64 k ∧ v3 = .int .i64 (sumLen r.pieces k)) (fun _ i => n0 - (intOf i).toNat)
  case atStart => exact ⟨0, Nat.zero_le _, rfl, by rw [sumLen_zero]⟩
  case round =>
    obtain ⟨k, hk, rfl, rfl⟩ := hrel
    have hs := HF.out.2 k (by have := H0.out.1; omega)
    obtain ⟨hs1, hs2⟩ := hs
    by_cases hlt : k < n0
    · obtain ⟨x, hx⟩ := H0.out.get hlt
      have hs3 := HF.out.2 (k + 1) (by have := H0.out.1; omega)
      rw [sumLen_succ hx] at hs3
      obtain ⟨hs4, hs5⟩ := hs3
      have HX := Lib.hid hx
      clear hx
      obtain ⟨ad, e, x0, x1, x2, x3, x4⟩ := (H0.out.below HB).atPiece HX.out
      cases e
      go_wp2
      go_round
      case rel => exact ⟨k + 1, by omega, by go_num, by rw [sumLen_succ HX.out]⟩
      case measure => simp [intOf]; omega
    · obtain rfl : n0 = k := by omega
      go_wp2
      go_ret
      exact ⟨ret_int (by rw [← H0.out.1]; rfl), HB⟩
set_option maxRecDepth 100000 in
set_option maxHeartbeats 1000000 in
theorem ref1_Valid (r : Road) (A0 A1 A2 : Option Addr) (n0 n1 n2 c0 c1 c2 : Nat) (w : World) (h0 : Rd 5 Piece.enc w A0 n0 r.pieces) (h1 : Rd 2 Crest.enc w A1 n1 r.crests) (h2 : Rd 3 Junction.enc w A2 n2 r.juncs) :
    Calls Tryd.prog 42 #[.agg #[.slice A0 n0 c0, .slice A1 n1 c1, .slice A2 n2 c2]] w fun e w' => e = .returned (.bool (bo r.Valid)) ∧ Below w.heap.size w w' := by
  have m0 := h0.2.1
  have m1 := h1.2.1
  have m2 := h2.2.1
  have H0 := Lib.hid h0
  have H1 := Lib.hid h1
  have H2 := Lib.hid h2
  clear h0 h1 h2
  go_enter Tryd.func42, Tryd.ntmps42
  go_wp2_with (go_at_call 82; refine (ref1_in _ _ _ _).mono ?_; rintro e w' ⟨rfl, rfl⟩)
  any_goals
    have hv : ¬r.Valid := by
      intro v
      have e0 := H0.out.1
      have e1 := H1.out.1
      have e2 := H2.out.1
      have v1 := v.some_
      have v2 := v.few
      have v3 := v.fewc
      have v4 := v.fewj
      go_light; simp only [inB_iff, inB_iff_false, Bool.not_eq_true, Bool.not_eq_true', Bool.not_eq_false', bne_iff_ne, bne_eq_false_iff_eq, beq_iff_eq, beq_eq_false_iff_ne, ne_eq, decide_eq_true_eq, decide_eq_false_iff_not, true_iff, false_iff, iff_true, iff_false, reduceCtorEq, Bool.and_eq_true, Bool.or_eq_true] at *
      omega
    go_ret
    exact ⟨ret_bool (bo_false hv).symm, (by repeat (first | assumption | exact Below.refl _ _ | apply bel_alloc | apply bel_drew | apply bel_drewN | (refine bel_set ?_ (by first | assumption | omega | (simp; done) | (simp; omega)) _)))⟩
  have HN : Hid (1 ≤ n0 ∧ n0 ≤ 2000 ∧ n1 ≤ 1000 ∧ n2 ≤ 200) := by
    go_light; simp only [inB_iff, inB_iff_false, Bool.not_eq_true, Bool.not_eq_true', Bool.not_eq_false', bne_iff_ne, bne_eq_false_iff_eq, beq_iff_eq, beq_eq_false_iff_ne, ne_eq, decide_eq_true_eq, decide_eq_false_iff_not, true_iff, false_iff, iff_true, iff_false, reduceCtorEq, Bool.and_eq_true, Bool.or_eq_true] at *
    exact ⟨by omega, by omega, by omega, by omega⟩
  go_loopw [3] (fun v3 wr => ∃ k : Nat, k ≤ n0 ∧ v3 = .int .i64 k ∧ Hid (PiecesOk r.pieces k) ∧ Hid (Blk wr w.heap.size 26 #[.slice A0 n0 c0, .slice A1 n1 c1, .slice A2 n2 c2]) ∧ Below w.heap.size w wr) (fun i _ => n0 - (intOf i).toNat)
  case atStart => exact ⟨0, Nat.zero_le _, rfl, PiecesOk.zero _, Blk.new _ _ _, (by repeat (first | assumption | exact Below.refl _ _ | apply bel_alloc | apply bel_drew | apply bel_drewN | (refine bel_set ?_ (by first | assumption | omega | (simp; done) | (simp; omega)) _)))⟩
  case round =>
    obtain ⟨k, hk, rfl, HP, HK, HB⟩ := hrel
    have hB0 := HB.size
    have hK := HK.out.lt
    have k0 := HK.out.cell 0
    have k1 := HK.out.cell 1
    have k2 := HK.out.cell 2
    by_cases hlt : k < n0
    · obtain ⟨x, hx⟩ := H0.out.get hlt
      have HX := Lib.hid hx
      clear hx
      obtain ⟨ad, e, x0, x1, x2, x3, x4⟩ := (H0.out.below HB).atPiece HX.out
      cases e
      have hs := HP.out.sum (by have := H0.out.1; omega)
      obtain ⟨hs1, hs2⟩ := hs
      have hN := HN.out.2.1
      by_cases hOk : x.Ok
      · have hb := bo_true hOk
        have hl1 := hOk.1
        have hl2 := hOk.2.1
        have HOk := Lib.hid hOk
        clear hOk
        go_wp2_with (go_at_call 83; refine (ref1_Piece x _).mono ?_; rintro e w' ⟨rfl, hw⟩; obtain ⟨hc, hf⟩ := bcell hw)
        go_roundw
        case rel => exact ⟨k + 1, by omega, by go_num, HP.out.succ HX.out HOk.out, HK.out.below hw, bel_then HB hw⟩
        case measure => simp [intOf]; omega
      · have hb := bo_false hOk
        have HOk := Lib.hid hOk
        clear hOk
        have hv : ¬r.Valid := fun v => HOk.out (v.pieces k x (by have := H0.out.1; omega) HX.out)
        go_wp2_with (go_at_call 83; refine (ref1_Piece x _).mono ?_; rintro e w' ⟨rfl, hw⟩; obtain ⟨hc, hf⟩ := bcell hw)
        go_ret
        exact ⟨ret_bool (bo_false hv).symm, bel_then HB hw⟩
    · obtain rfl : n0 = k := by omega
      have hfit : r.Fit := by
        have e0 := H0.out.1
        have := HN.out.2.1
        refine ⟨by omega, fun j hj => ?_⟩
        have := PiecesOk.sum (l := r.pieces) (k := j) (fun i p hi => HP.out i p (by omega)) hj
        omega
      obtain ⟨hL0, hL1⟩ : 0 ≤ r.length ∧ r.length ≤ 1099511627776 := hfit.2 _ (Nat.le_refl _)
      have HFIT := Lib.hid hfit
      clear hfit
      go_wp2_with (go_at_call 84; go_must ((refine (ref1_Length r A0 A1 A2 n0 n1 n2 c0 c1 c2 _ (H0.out.below HB) HFIT.out).mono ?_; rintro e w1 ⟨rfl, hw1⟩)))
      have HK1 := Lib.hid (HK.out.below hw1)
      have HB1 := Lib.hid (bel_then HB hw1)
      clear hB0 hK k0 k1 k2 HK HB hw1
      go_loopw [5] (fun v5 wr => ∃ k : Nat, k ≤ n1 ∧ v5 = .int .i64 k ∧ Hid (CrestsOk r.length r.crests k) ∧ Hid (Blk wr w.heap.size 26 #[.slice A0 n0 c0, .slice A1 n1 c1, .slice A2 n2 c2]) ∧ Below w.heap.size w wr) (fun i _ => n1 - (intOf i).toNat)
      case atStart => exact ⟨0, Nat.zero_le _, rfl, CrestsOk.zero _ _, HK1, HB1.out⟩
      case round =>
        obtain ⟨k, hk, rfl, HC, HK, HB⟩ := hrel
        have hB0 := HB.size
        have hK := HK.out.lt
        have k0 := HK.out.cell 0
        have k1 := HK.out.cell 1
        have k2 := HK.out.cell 2
        by_cases hlt : k < n1
        · obtain ⟨x, hx⟩ := H1.out.get hlt
          have HX := Lib.hid hx
          clear hx
          obtain ⟨ad, e, x0, x1⟩ := (H1.out.below HB).atCrest HX.out
          cases e
          rcases hb1 : inB x.at_ 0 r.length <;> rcases hb2 : inB x.size 1 3
          all_goals
            rcases Nat.eq_zero_or_pos k with hz | hz
            · have hd : decide (0 < k) = false := by rw [hz]; rfl
              have HZ := Lib.hid hz
              clear hz
              go_wp2
              go_quiet ((go_at_call 82; exact quiet_eq (ref1_in _ _ _ _)))
              go_wp2
              first
                | (go_roundw
                   case rel => exact ⟨k + 1, by omega, by go_num, HC.out.succ (crest_ok HX.out hb1 hb2 (.inl HZ.out)), HK.out.alloc _, (by repeat (first | assumption | exact Below.refl _ _ | apply bel_alloc | apply bel_drew | apply bel_drewN | (refine bel_set ?_ (by first | assumption | omega | (simp; done) | (simp; omega)) _)))⟩
                   case measure => simp [intOf]; omega)
                | (go_ret
                   exact ⟨ret_bool (bo_false fun v => crest_no HX.out (by first | exact .inl hb1 | exact .inr (.inl hb2)) (v.crests k (by have := H1.out.1; omega))).symm, (by repeat (first | assumption | exact Below.refl _ _ | apply bel_alloc | apply bel_drew | apply bel_drewN | (refine bel_set ?_ (by first | assumption | omega | (simp; done) | (simp; omega)) _)))⟩)
            · obtain ⟨y, hy⟩ := H1.out.get (i := k - 1) (by omega)
              have HY := Lib.hid hy
              clear hy
              obtain ⟨ad', e, y0, y1⟩ := (H1.out.below HB).atCrest HY.out
              cases e
              have yb := World.block_lt_of_cell? _ _ y0
              have q1 : IntKind.i64.wrap ((k : Int) - 1) = (k : Int) - 1 := IntWalk.i64_in _ (by omega)
              have q2 : (0 : Int) ≤ (k : Int) - 1 := by omega
              have q3 : (1 : Int) ≤ (k : Int) := by omega
              have q4 : ((k : Int) - 1).toNat = k - 1 := by omega
              have q5 : (k : Int) - 1 < (n1 : Int) := by omega
              go_wp2
              rcases hb3 : decide (x.at_ ≤ y.at_)
              all_goals
                go_quiet ((go_at_call 82; exact quiet_eq (ref1_in _ _ _ _)))
                clear q1 q2 q3 q4 q5
                go_wp2
                first
                  | (go_roundw
                     case rel => exact ⟨k + 1, by omega, by go_num, HC.out.succ (crest_ok HX.out hb1 hb2 (.inr ⟨y, HY.out, hb3⟩)), HK.out.alloc _, (by repeat (first | assumption | exact Below.refl _ _ | apply bel_alloc | apply bel_drew | apply bel_drewN | (refine bel_set ?_ (by first | assumption | omega | (simp; done) | (simp; omega)) _)))⟩
                     case measure => simp [intOf]; omega)
                  | (go_ret
                     exact ⟨ret_bool (bo_false fun v => crest_no HX.out (by first | exact .inl hb1 | exact .inr (.inl hb2) | exact .inr (.inr ⟨hz, y, HY.out, hb3⟩)) (v.crests k (by have := H1.out.1; omega))).symm, (by repeat (first | assumption | exact Below.refl _ _ | apply bel_alloc | apply bel_drew | apply bel_drewN | (refine bel_set ?_ (by first | assumption | omega | (simp; done) | (simp; omega)) _)))⟩)
        · obtain rfl : n1 = k := by omega
          go_wp2
          generalize hwr : wr = W2 at *
          clear hwr
          go_loopw [7] (fun v7 wr => ∃ k : Nat, k ≤ n2 ∧ v7 = .int .i64 k ∧ Hid (JunctionsOk r.length r.juncs k) ∧ Hid (Blk wr w.heap.size 26 #[.slice A0 n0 c0, .slice A1 n1 c1, .slice A2 n2 c2]) ∧ Below w.heap.size w wr) (fun i _ => n2 - (intOf i).toNat)
          case atStart => exact ⟨0, Nat.zero_le _, rfl, JunctionsOk.zero _ _, HK, HB⟩
          case round =>
            clear hB0 hK k0 k1 k2 HK HB
            obtain ⟨k, hk, rfl, HJ, HK, HB⟩ := hrel
            have hB0 := HB.size
            have hK := HK.out.lt
            have k0 := HK.out.cell 0
            have k1 := HK.out.cell 1
            have k2 := HK.out.cell 2
            by_cases hlt : k < n2
            · obtain ⟨x, hx⟩ := H2.out.get hlt
              have HX := Lib.hid hx
              clear hx
              obtain ⟨ad, e, x0, x1, x2⟩ := (H2.out.below HB).atJunction HX.out
              cases e
              rcases hb1 : inB x.at_ 0 r.length <;> rcases hb2 : inB x.arms 2 6 <;> rcases hb4 : inB x.way 1 x.arms
              all_goals
                rcases Nat.eq_zero_or_pos k with hz | hz
                · have hd : decide (0 < k) = false := by rw [hz]; rfl
                  have HZ := Lib.hid hz
                  clear hz
                  go_wp2
                  go_quiet ((go_at_call 82; exact quiet_eq (ref1_in _ _ _ _)))
                  go_wp2
                  first
                    | (go_roundw
                       case rel => exact ⟨k + 1, by omega, by go_num, HJ.out.succ (junction_ok HX.out hb1 hb2 hb4 (.inl HZ.out)), HK.out.alloc _, (by repeat (first | assumption | exact Below.refl _ _ | apply bel_alloc | apply bel_drew | apply bel_drewN | (refine bel_set ?_ (by first | assumption | omega | (simp; done) | (simp; omega)) _)))⟩
                       case measure => simp [intOf]; omega)
                    | (go_ret
                       exact ⟨ret_bool (bo_false fun v => junction_no HX.out (by first | exact .inl hb1 | exact .inr (.inl hb2) | exact .inr (.inr (.inl hb4))) (v.juncs k (by have := H2.out.1; omega))).symm, (by repeat (first | assumption | exact Below.refl _ _ | apply bel_alloc | apply bel_drew | apply bel_drewN | (refine bel_set ?_ (by first | assumption | omega | (simp; done) | (simp; omega)) _)))⟩)
                · obtain ⟨y, hy⟩ := H2.out.get (i := k - 1) (by omega)
                  have HY := Lib.hid hy
                  clear hy
                  obtain ⟨ad', e, y0, y1, y2⟩ := (H2.out.below HB).atJunction HY.out
                  cases e
                  have yb := World.block_lt_of_cell? _ _ y0
                  have q1 : IntKind.i64.wrap ((k : Int) - 1) = (k : Int) - 1 := IntWalk.i64_in _ (by omega)
                  have q2 : (0 : Int) ≤ (k : Int) - 1 := by omega
                  have q3 : (1 : Int) ≤ (k : Int) := by omega
                  have q4 : ((k : Int) - 1).toNat = k - 1 := by omega
                  have q5 : (k : Int) - 1 < (n2 : Int) := by omega
                  go_wp2
                  rcases hb3 : decide (x.at_ ≤ y.at_)
                  all_goals
                    go_quiet ((go_at_call 82; exact quiet_eq (ref1_in _ _ _ _)))
                    clear q1 q2 q3 q4 q5
                    go_wp2
                    first
                      | (go_roundw
                         case rel => exact ⟨k + 1, by omega, by go_num, HJ.out.succ (junction_ok HX.out hb1 hb2 hb4 (.inr ⟨y, HY.out, hb3⟩)), HK.out.alloc _, (by repeat (first | assumption | exact Below.refl _ _ | apply bel_alloc | apply bel_drew | apply bel_drewN | (refine bel_set ?_ (by first | assumption | omega | (simp; done) | (simp; omega)) _)))⟩
                         case measure => simp [intOf]; omega)
                      | (go_ret
                         exact ⟨ret_bool (bo_false fun v => junction_no HX.out (by first | exact .inl hb1 | exact .inr (.inl hb2) | exact .inr (.inr (.inl hb4)) | exact .inr (.inr (.inr ⟨hz, y, HY.out, hb3⟩))) (v.juncs k (by have := H2.out.1; omega))).symm, (by repeat (first | assumption | exact Below.refl _ _ | apply bel_alloc | apply bel_drew | apply bel_drewN | (refine bel_set ?_ (by first | assumption | omega | (simp; done) | (simp; omega)) _)))⟩)
            · obtain rfl : n2 = k := by omega
              rcases hshort : decide (r.length ≤ 100000)
              · have hv : ¬r.Valid := fun v => by
                  have := v.short
                  simp at hshort
                  omega
                have HV := Lib.hid hv
                clear hv
                go_wp2
                go_ret
                exact ⟨ret_bool (bo_false HV.out).symm, HB⟩
              · have hv : r.Valid := by
                  have e0 := H0.out.1
                  have e1 := H1.out.1
                  have e2 := H2.out.1
                  obtain ⟨a, b, c, d⟩ := HN.out
                  simp at hshort
                  exact ⟨by omega, by omega, by omega, by omega, by rw [e0]; exact HP.out, by omega, by rw [e1]; exact HC.out, by rw [e2]; exact HJ.out⟩
                have HV := Lib.hid hv
                clear hv
                go_wp2
                go_ret
                exact ⟨ret_bool (bo_true HV.out).symm, HB⟩
end Go.Proofs.YtinglbcafcjhfaaDoor
