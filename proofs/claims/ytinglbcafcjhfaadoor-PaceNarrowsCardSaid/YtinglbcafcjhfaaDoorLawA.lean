/- Contracts of the laws' own small functions: few, quick, fine, some. -/
import Derived.Test.YtinglbcafcjhfaaDoorRefA
import Derived.Test.YtinglbcafcjhfaaDoorRefB
import Derived.Test.YtinglbcafcjhfaaDoorKnownB
namespace Go.Proofs.YtinglbcafcjhfaaDoor
open Go.RowKit
set_option linter.unusedVariables false
set_option linter.unusedSimpArgs false

/-- What counts of the lengths of the first k pieces. -/
def fewN (l : List Piece) (k : Nat) : Int := ((l.take k).map fun p => if 0 < p.len ∧ p.len ≤ 5000 then p.len else 0).sum
theorem fewN_zero (l : List Piece) : fewN l 0 = 0 := by simp [fewN]
theorem fewN_succ {l : List Piece} {k : Nat} {p : Piece} (h : l[k]? = some p) : fewN l (k + 1) = fewN l k + if 0 < p.len ∧ p.len ≤ 5000 then p.len else 0 := by
  unfold fewN
  rw [List.take_add_one, h]
  simp
theorem fewN_bound (l : List Piece) : ∀ k : Nat, 0 ≤ fewN l k ∧ fewN l k ≤ 5000 * k
  | 0 => by simp [fewN_zero]
  | k + 1 => by
    have ih := fewN_bound l k
    cases hp : l[k]? with
    | none =>
      have : fewN l (k + 1) = fewN l k := by unfold fewN; rw [List.take_add_one, hp]; simp
      omega
    | some p =>
      rw [fewN_succ hp]
      split <;> omega
def Few (r : Road) : Prop := fewN r.pieces r.pieces.length ≤ 120 ∧ r.pieces.length ≤ 60 ∧ r.crests.length ≤ 40 ∧ r.juncs.length ≤ 40
def Quick (s : Speeds) : Prop := s.rows.length ≤ 40 ∧ s.surface.length ≤ 20
set_option maxRecDepth 100000 in
set_option maxHeartbeats 2000000 in
theorem law_few (r : Road) (A0 A1 A2 : Option Addr) (n0 n1 n2 c0 c1 c2 : Nat) (w : World) (h0 : Rd 5 Piece.enc w A0 n0 r.pieces) (h1 : r.crests.length = n1) (h2 : r.juncs.length = n2) :
    Calls Tryd.prog 16 #[.agg #[.slice A0 n0 c0, .slice A1 n1 c1, .slice A2 n2 c2]] w fun e w' => e = .returned (.bool (bo (Few r))) ∧ Below w.heap.size w w' := by
  have m0 := h0.2.1
  have H0 := Lib.hid h0
  have H1 := Lib.hid h1
  have H2 := Lib.hid h2
  clear h0 h1 h2
  by_cases h60 : n0 ≤ 60
  rotate_left
  · have hd : decide ((n0 : Int) ≤ 60) = false := by simp; omega
    have hb : bo (Few r) = false := bo_false fun h => by have := h.2.1; have := H0.out.1; omega
    have HBF := Lib.hid hb
    clear hb
    go_enter Tryd.func16, Tryd.ntmps16
    go_wp2
    obtain ⟨W1, hW1⟩ : ∃ W1, w.alloc (.cells #[.slice A0 n0 c0, .slice A1 n1 c1, .slice A2 n2 c2] 26) = W1 := ⟨_, rfl⟩
    have HB : Below w.heap.size w W1 := by rw [← hW1]; exact (by repeat (first | assumption | exact Below.refl _ _ | apply bel_alloc | apply bel_drew | apply bel_drewN | (refine bel_set ?_ (by first | assumption | omega | (simp; done) | (simp; omega)) _)))
    have HT : Blk W1 w.heap.size 26 #[.slice A0 n0 c0, .slice A1 n1 c1, .slice A2 n2 c2] := by rw [← hW1]; exact Blk.new _ _ _
    rw [hW1]
    clear hW1
    have k0 := HT.cell 0
    have k1 := HT.cell 1
    have k2 := HT.cell 2
    clear HT
    go_loop [3, 4] (fun v3 v4 => ∃ (k : Nat) (z : Int), k ≤ n0 ∧ v4 = .int .i64 k ∧ v3 = .int .i64 z) (fun _ i => n0 - (intOf i).toNat)
    case atStart => exact ⟨0, 0, Nat.zero_le _, rfl, rfl⟩
    case round =>
      obtain ⟨k, z, hk, rfl, rfl⟩ := hrel
      by_cases hlt : k < n0
      · obtain ⟨x, hx⟩ := H0.out.get hlt
        have HX := Lib.hid hx
        clear hx
        obtain ⟨ad, e, x0, x1, x2, x3, x4⟩ := (H0.out.below HB).atPiece HX.out
        cases e
        go_wp2
        all_goals
          go_round
          case rel => exact ⟨k + 1, _, by omega, by go_num, rfl⟩
          case measure => simp [intOf]; omega
      · obtain rfl : n0 = k := by omega
        go_wp2
        all_goals
          go_ret
          exact ⟨ret_bool HBF.out.symm, HB⟩
  go_enter Tryd.func16, Tryd.ntmps16
  go_wp2
  obtain ⟨W1, hW1⟩ : ∃ W1, w.alloc (.cells #[.slice A0 n0 c0, .slice A1 n1 c1, .slice A2 n2 c2] 26) = W1 := ⟨_, rfl⟩
  have HB : Below w.heap.size w W1 := by rw [← hW1]; exact (by repeat (first | assumption | exact Below.refl _ _ | apply bel_alloc | apply bel_drew | apply bel_drewN | (refine bel_set ?_ (by first | assumption | omega | (simp; done) | (simp; omega)) _)))
  have HT : Blk W1 w.heap.size 26 #[.slice A0 n0 c0, .slice A1 n1 c1, .slice A2 n2 c2] := by rw [← hW1]; exact Blk.new _ _ _
  rw [hW1]
  clear hW1
  have k0 := HT.cell 0
  have k1 := HT.cell 1
  have k2 := HT.cell 2
  clear HT
  go_loop [3, 4] (fun v3 v4 => ∃ k : Nat, k ≤ n0 ∧ v4 = .int .i64 k ∧ v3 = .int .i64 (fewN r.pieces k)) (fun _ i => n0 - (intOf i).toNat)
  case atStart => exact ⟨0, Nat.zero_le _, rfl, by rw [fewN_zero]⟩
  case round =>
    obtain ⟨k, hk, rfl, rfl⟩ := hrel
    obtain ⟨hs1, hs2⟩ := fewN_bound r.pieces k
    by_cases hlt : k < n0
    · obtain ⟨x, hx⟩ := H0.out.get hlt
      have HX := Lib.hid hx
      clear hx
      obtain ⟨ad, e, x0, x1, x2, x3, x4⟩ := (H0.out.below HB).atPiece HX.out
      cases e
      by_cases hp : 0 < x.len
      · have hd1 : decide (0 < x.len) = true := decide_eq_true hp
        by_cases hq : x.len ≤ 5000
        · have hd2 : decide (x.len ≤ 5000) = true := decide_eq_true hq
          have HN := Lib.hid (show fewN r.pieces (k + 1) = fewN r.pieces k + x.len by rw [fewN_succ HX.out, if_pos ⟨hp, hq⟩])
          go_wp2
          go_round
          case rel => exact ⟨k + 1, by omega, by go_num, by rw [HN.out]⟩
          case measure => simp [intOf]; omega
        · have hd2 : decide (x.len ≤ 5000) = false := decide_eq_false hq
          have HN := Lib.hid (show fewN r.pieces (k + 1) = fewN r.pieces k by rw [fewN_succ HX.out, if_neg (by omega)]; omega)
          go_wp2
          go_round
          case rel => exact ⟨k + 1, by omega, by go_num, by rw [HN.out]⟩
          case measure => simp [intOf]; omega
      · have hd1 : decide (0 < x.len) = false := decide_eq_false hp
        have HN := Lib.hid (show fewN r.pieces (k + 1) = fewN r.pieces k by rw [fewN_succ HX.out, if_neg (by omega)]; omega)
        go_wp2
        go_round
        case rel => exact ⟨k + 1, by omega, by go_num, by rw [HN.out]⟩
        case measure => simp [intOf]; omega
    · obtain rfl : n0 = k := by omega
      obtain ⟨V, hV⟩ : ∃ V, fewN r.pieces n0 = V := ⟨_, rfl⟩
      rw [hV]
      have HV := Lib.hid hV
      clear hV hs1 hs2
      go_wp2
      all_goals
        go_ret
        refine ⟨ret_bo ?_, HB⟩
        have e0 := H0.out.1
        have e1 := H1.out
        have e2 := H2.out
        have e3 := HV.out
        rw [← e0] at e3
        unfold Few
        rw [e3]
        go_light; simp only [inB_iff, inB_iff_false, Bool.not_eq_true, Bool.not_eq_true', Bool.not_eq_false', bne_iff_ne, bne_eq_false_iff_eq, beq_iff_eq, beq_eq_false_iff_ne, ne_eq, decide_eq_true_eq, decide_eq_false_iff_not, true_iff, false_iff, iff_true, iff_false, reduceCtorEq, Bool.and_eq_true, Bool.or_eq_true] at *
        omega
theorem law_quick (s : Speeds) (A2 A3 : Option Addr) (n2 n3 c2 c3 : Nat) (w : World) (h2 : s.rows.length = n2) (h3 : s.surface.length = n3) :
    Calls Tryd.prog 17 #[.agg #[.int .i64 s.least, .int .i64 s.most, .slice A2 n2 c2, .slice A3 n3 c3]] w fun e w' => e = .returned (.bool (bo (Quick s))) ∧ Below w.heap.size w w' := by
  have H2 := Lib.hid h2
  have H3 := Lib.hid h3
  clear h2 h3
  go_enter Tryd.func17, Tryd.ntmps17
  go_wp2
  all_goals
    go_ret
    refine ⟨ret_bo ?_, (by repeat (first | assumption | exact Below.refl _ _ | apply bel_alloc | apply bel_drew | apply bel_drewN | (refine bel_set ?_ (by first | assumption | omega | (simp; done) | (simp; omega)) _)))⟩
    have e2 := H2.out
    have e3 := H3.out
    unfold Quick
    go_light; simp only [inB_iff, inB_iff_false, Bool.not_eq_true, Bool.not_eq_true', Bool.not_eq_false', bne_iff_ne, bne_eq_false_iff_eq, beq_iff_eq, beq_eq_false_iff_ne, ne_eq, decide_eq_true_eq, decide_eq_false_iff_not, true_iff, false_iff, iff_true, iff_false, reduceCtorEq, Bool.and_eq_true, Bool.or_eq_true] at *
    omega
def Fine (r : Road) (s : Speeds) : Prop := r.Valid ∧ s.Valid
theorem law_fine (s : Speeds) (r : Road) (A0 A1 A2 B2 B3 : Option Addr) (n0 n1 n2 m2 m3 c0 c1 c2 d2 d3 : Nat) (w : World)
    (h0 : Rd 5 Piece.enc w A0 n0 r.pieces) (h1 : Rd 2 Crest.enc w A1 n1 r.crests) (h2 : Rd 3 Junction.enc w A2 n2 r.juncs) (g2 : Rd 3 SpeedRow.enc w B2 m2 s.rows) (g3 : Rd 1 intEnc w B3 m3 s.surface) :
    Calls Tryd.prog 22 #[.agg #[.slice A0 n0 c0, .slice A1 n1 c1, .slice A2 n2 c2], .agg #[.int .i64 s.least, .int .i64 s.most, .slice B2 m2 d2, .slice B3 m3 d3]] w fun e w' => e = .returned (.bool (bo (Fine r s))) ∧ Below w.heap.size w w' := by
  have H0 := Lib.hid h0
  have H1 := Lib.hid h1
  have H2 := Lib.hid h2
  have G2 := Lib.hid g2
  have G3 := Lib.hid g3
  clear h0 h1 h2 g2 g3
  obtain ⟨V, hV⟩ : ∃ V, bo (Fine r s) = V := ⟨_, rfl⟩
  rw [hV]
  by_cases hr : r.Valid
  · have hb : bo r.Valid = true := bo_true hr
    have hv : V = bo s.Valid := by rw [← hV]; exact bo_congr ⟨fun h => h.2, fun h => ⟨hr, h⟩⟩
    have HV := Lib.hid hv
    clear hV hr hv
    go_enter Tryd.func22, Tryd.ntmps22
    go_wp2_with (first
      | (go_at_call 42; go_must ((refine (ref1_Valid r A0 A1 A2 n0 n1 n2 c0 c1 c2 _ (H0.out.below (by repeat (first | assumption | exact Below.refl _ _ | apply bel_alloc | apply bel_drew | apply bel_drewN | (refine bel_set ?_ (by first | assumption | omega | (simp; done) | (simp; omega)) _)))) (H1.out.below (by repeat (first | assumption | exact Below.refl _ _ | apply bel_alloc | apply bel_drew | apply bel_drewN | (refine bel_set ?_ (by first | assumption | omega | (simp; done) | (simp; omega)) _)))) (H2.out.below (by repeat (first | assumption | exact Below.refl _ _ | apply bel_alloc | apply bel_drew | apply bel_drewN | (refine bel_set ?_ (by first | assumption | omega | (simp; done) | (simp; omega)) _))))).mono ?_; rintro e w1 ⟨rfl, hw1⟩; have CS : Blk w1 (w.heap.size + 1) 30 #[.int .i64 s.least, .int .i64 s.most, .slice B2 m2 d2, .slice B3 m3 d3] := (Blk.new_at _ _ _ _ (by simp)).below hw1; have s0 := CS.cell 0; have s1 := CS.cell 1; have s2 := CS.cell 2; have s3 := CS.cell 3; clear CS)))
      | (go_at_call 21; go_must ((refine (ref3_Speeds s B2 B3 m2 m3 d2 d3 _ (G2.out.below (bel_then (by repeat (first | assumption | exact Below.refl _ _ | apply bel_alloc | apply bel_drew | apply bel_drewN | (refine bel_set ?_ (by first | assumption | omega | (simp; done) | (simp; omega)) _))) hw1)) (G3.out.below (bel_then (by repeat (first | assumption | exact Below.refl _ _ | apply bel_alloc | apply bel_drew | apply bel_drewN | (refine bel_set ?_ (by first | assumption | omega | (simp; done) | (simp; omega)) _))) hw1))).mono ?_; rintro e w2 ⟨rfl, hw2⟩))))
    go_ret
    exact ⟨ret_bool HV.out.symm, bel_then (bel_then (by repeat (first | assumption | exact Below.refl _ _ | apply bel_alloc | apply bel_drew | apply bel_drewN | (refine bel_set ?_ (by first | assumption | omega | (simp; done) | (simp; omega)) _))) hw1) hw2⟩
  · have hb : bo r.Valid = false := bo_false hr
    obtain rfl : V = false := by rw [← hV]; exact bo_false fun h => hr h.1
    clear hV hr
    go_enter Tryd.func22, Tryd.ntmps22
    go_wp2_with (go_at_call 42; go_must ((refine (ref1_Valid r A0 A1 A2 n0 n1 n2 c0 c1 c2 _ (H0.out.below (by repeat (first | assumption | exact Below.refl _ _ | apply bel_alloc | apply bel_drew | apply bel_drewN | (refine bel_set ?_ (by first | assumption | omega | (simp; done) | (simp; omega)) _)))) (H1.out.below (by repeat (first | assumption | exact Below.refl _ _ | apply bel_alloc | apply bel_drew | apply bel_drewN | (refine bel_set ?_ (by first | assumption | omega | (simp; done) | (simp; omega)) _)))) (H2.out.below (by repeat (first | assumption | exact Below.refl _ _ | apply bel_alloc | apply bel_drew | apply bel_drewN | (refine bel_set ?_ (by first | assumption | omega | (simp; done) | (simp; omega)) _))))).mono ?_; rintro e w1 ⟨rfl, hw1⟩)))
    go_ret
    exact ⟨rfl, bel_then (by repeat (first | assumption | exact Below.refl _ _ | apply bel_alloc | apply bel_drew | apply bel_drewN | (refine bel_set ?_ (by first | assumption | omega | (simp; done) | (simp; omega)) _))) hw1⟩
end Go.Proofs.YtinglbcafcjhfaaDoor
