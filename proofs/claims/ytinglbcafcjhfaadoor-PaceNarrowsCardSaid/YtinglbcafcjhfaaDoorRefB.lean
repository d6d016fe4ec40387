/- Contracts of the reference of package pace: which speeds are as defined, and a road's length. -/
import Derived.Test.YtinglbcafcjhfaaDoorPaceB
import Derived.Outline
namespace Go.Proofs.YtinglbcafcjhfaaDoor
open Go.RowKit
set_option linter.unusedVariables false
set_option linter.unusedSimpArgs false

theorem ref3_in (x a b : Int) (w : World) : Calls Tryd.prog 65 #[.int .i64 x, .int .i64 a, .int .i64 b] w fun e w' => e = .returned (.bool (inB x a b)) ∧ w = w' := by
  by_cases h : a ≤ x
  · have h1 : decide (a ≤ x) = true := decide_eq_true h
    go_enter Tryd.func65, Tryd.ntmps65
    go_wp2
    go_ret
    exact ⟨by simp [inB, h], rfl⟩
  · have h1 : decide (a ≤ x) = false := decide_eq_false h
    go_enter Tryd.func65, Tryd.ntmps65
    go_wp2
    go_ret
    exact ⟨by simp [inB]; omega, rfl⟩
set_option maxRecDepth 100000 in
set_option maxHeartbeats 1000000 in
theorem ref3_Length (r : Road) (A0 A1 A2 : Option Addr) (n0 n1 n2 c0 c1 c2 : Nat) (w : World) (h0 : Rd 5 Piece.enc w A0 n0 r.pieces) (hf : r.Fit) :
    Calls Tryd.prog 23 #[.agg #[.slice A0 n0 c0, .slice A1 n1 c1, .slice A2 n2 c2]] w fun e w' => e = .returned (.int .i64 r.length) ∧ Below w.heap.size w w' := by
  have m0 := h0.2.1
  have hn : n0 ≤ 1000000 := by rw [← h0.1]; exact hf.1
  have H0 := Lib.hid h0
  have HF := Lib.hid hf
  clear h0 hf
  go_enter Tryd.func23, Tryd.ntmps23
  go_wp2
  obtain ⟨W1, hW1⟩ : ∃ W1, w.alloc (.cells #[.slice A0 n0 c0, .slice A1 n1 c1, .slice A2 n2 c2] 26) = W1 := ⟨_, rfl⟩
  have HB : Below w.heap.size w W1 := by rw [← hW1]; exact (by repeat (first | assumption | exact Below.refl _ _ | apply bel_alloc | apply bel_drew | apply bel_drewN | (refine bel_set ?_ (by first | assumption | omega | (simp; done) | (simp; omega)) _)))
  have HT : Blk W1 w.heap.size 26 #[.slice A0 n0 c0, .slice A1 n1 c1, .slice A2 n2 c2] := by rw [← hW1]; exact Blk.new _ _ _
  rw [hW1]
  clear hW1
  have k0 := HT.cell 0
  clear HT
  go_loop [3, 4] (fun v3 v4 => ∃ k : Nat, k ≤ n0 ∧ v4 = .int .i64 k ∧ v3 = .int .i64 (sumLen r.pieces k)) (fun _ i => n0 - (intOf i).toNat)
  case atStart => exact ⟨0, Nat.zero_le _, rfl, by rw [sumLen_zero]⟩
  case round =>
    obtain ⟨k, hk, rfl, rfl⟩ := hrel
    have hs := HF.out.2 k (by have := H0.out.1; omega)
    obtain ⟨hs1, hs2⟩ := hs
    by_cases hlt : k < n0
    · obtain ⟨x, hx⟩ := H0.out.get hlt
      have hs3 := HF.out.2 (k + 1) (by have := H0.out.1; omega)
      rw [sumLen_succ hx] at hs3
      obtain ⟨hs4, hs5⟩ := hs3
      have HX := Lib.hid hx
      clear hx
      obtain ⟨ad, e, x0, x1, x2, x3, x4⟩ := (H0.out.below HB).atPiece HX.out
      cases e
      go_wp2
      go_round
      case rel => exact ⟨k + 1, by omega, by go_num, by rw [sumLen_succ HX.out]⟩
      case measure => simp [intOf]; omega
    · obtain rfl : n0 = k := by omega
      go_wp2
      go_ret
      exact ⟨ret_int (by rw [← H0.out.1]; rfl), HB⟩

theorem bnd_no1 {a b : Int} (h : decide (a < 1) = true) : bnd a b = false := bnd_iff_false.2 (by simp at h; omega)
theorem bnd_no2 {a b : Int} (h : decide (b < a) = true) : bnd a b = false := bnd_iff_false.2 (by simp at h; omega)
theorem bnd_no3 {a b : Int} (h : decide (700 < b) = true) : bnd a b = false := bnd_iff_false.2 (by simp at h; omega)
theorem bnd_yes {a b : Int} (h1 : decide (a < 1) = false) (h2 : decide (b < a) = false) (h3 : decide (700 < b) = false) : bnd a b = true := bnd_iff.2 (by simp at *; omega)
set_option maxRecDepth 100000 in
set_option maxHeartbeats 2000000 in
theorem ref3_Speeds (s : Speeds) (A2 A3 : Option Addr) (n2 n3 c2 c3 : Nat) (w : World) (h2 : Rd 3 SpeedRow.enc w A2 n2 s.rows) (h3 : Rd 1 intEnc w A3 n3 s.surface) :
    Calls Tryd.prog 21 #[.agg #[.int .i64 s.least, .int .i64 s.most, .slice A2 n2 c2, .slice A3 n3 c3]] w fun e w' => e = .returned (.bool (bo s.Valid)) ∧ Below w.heap.size w w' := by
  have m2 := h2.2.1
  have m3 := h3.2.1
  have H2 := Lib.hid h2
  have H3 := Lib.hid h3
  clear h2 h3
  rcases hb1 : decide (s.least < 1)
  rotate_left
  · have HB1 := Lib.hid hb1
    have HV := Lib.hid (show ¬s.Valid from fun v => by have := v.bounds; rw [bnd_no1 HB1.out] at this; cases this)
    go_enter Tryd.func21, Tryd.ntmps21
    go_wp2_with (go_at_call 65; refine (ref3_in _ _ _ _).mono ?_; rintro e w' ⟨rfl, rfl⟩)
    go_ret
    exact ⟨ret_bool (bo_false HV.out).symm, (by repeat (first | assumption | exact Below.refl _ _ | apply bel_alloc | apply bel_drew | apply bel_drewN | (refine bel_set ?_ (by first | assumption | omega | (simp; done) | (simp; omega)) _)))⟩
  rcases hb2 : decide (s.most < s.least)
  rotate_left
  · have HB1 := Lib.hid hb2
    have HV := Lib.hid (show ¬s.Valid from fun v => by have := v.bounds; rw [bnd_no2 HB1.out] at this; cases this)
    go_enter Tryd.func21, Tryd.ntmps21
    go_wp2_with (go_at_call 65; refine (ref3_in _ _ _ _).mono ?_; rintro e w' ⟨rfl, rfl⟩)
    go_ret
    exact ⟨ret_bool (bo_false HV.out).symm, (by repeat (first | assumption | exact Below.refl _ _ | apply bel_alloc | apply bel_drew | apply bel_drewN | (refine bel_set ?_ (by first | assumption | omega | (simp; done) | (simp; omega)) _)))⟩
  rcases hb3 : decide (700 < s.most)
  rotate_left
  · have HB1 := Lib.hid hb3
    have HV := Lib.hid (show ¬s.Valid from fun v => by have := v.bounds; rw [bnd_no3 HB1.out] at this; cases this)
    go_enter Tryd.func21, Tryd.ntmps21
    go_wp2_with (go_at_call 65; refine (ref3_in _ _ _ _).mono ?_; rintro e w' ⟨rfl, rfl⟩)
    go_ret
    exact ⟨ret_bool (bo_false HV.out).symm, (by repeat (first | assumption | exact Below.refl _ _ | apply bel_alloc | apply bel_drew | apply bel_drewN | (refine bel_set ?_ (by first | assumption | omega | (simp; done) | (simp; omega)) _)))⟩
  have HBD := Lib.hid (bnd_yes hb1 hb2 hb3)
  rcases hb4 : inB n2 1 30
  · have HB1 := Lib.hid hb4
    have HV := Lib.hid (show ¬s.Valid from fun v => by have := v.some_; have := v.few; have := H2.out.1; have := inB_iff_false.1 HB1.out; omega)
    go_enter Tryd.func21, Tryd.ntmps21
    go_wp2_with (go_at_call 65; refine (ref3_in _ _ _ _).mono ?_; rintro e w' ⟨rfl, rfl⟩)
    go_ret
    exact ⟨ret_bool (bo_false HV.out).symm, (by repeat (first | assumption | exact Below.refl _ _ | apply bel_alloc | apply bel_drew | apply bel_drewN | (refine bel_set ?_ (by first | assumption | omega | (simp; done) | (simp; omega)) _)))⟩
  have hn2 := inB_iff.1 hb4
  obtain ⟨hn2a, hn2b⟩ := hn2
  by_cases hn3 : n3 = 9
  rotate_left
  · have hn3b : ((n3 : Int) != 9) = true := by simp; omega
    have HN3 := Lib.hid hn3
    clear hn3
    have HV := Lib.hid (show ¬s.Valid from fun v => by have := v.nine; have := H3.out.1; exact HN3.out (by omega))
    go_enter Tryd.func21, Tryd.ntmps21
    go_wp2_with (go_at_call 65; refine (ref3_in _ _ _ _).mono ?_; rintro e w' ⟨rfl, rfl⟩)
    go_ret
    exact ⟨ret_bool (bo_false HV.out).symm, (by repeat (first | assumption | exact Below.refl _ _ | apply bel_alloc | apply bel_drew | apply bel_drewN | (refine bel_set ?_ (by first | assumption | omega | (simp; done) | (simp; omega)) _)))⟩
  subst hn3
  obtain ⟨z, hz⟩ := H2.out.get (i := 0) (by omega)
  have HZ := Lib.hid hz
  clear hz
  obtain ⟨ad, e, z0, z1, z2⟩ := H2.out.atRow HZ.out
  cases e
  have z0' : w.cell? ad = some (.int .i64 z.radius) := by rw [Nat.zero_mul, add_zero_] at z0; exact z0
  have zb : ad.block < w.heap.size := World.block_lt_of_cell? _ _ z0'
  clear z0 z1 z2
  rcases hz5 : (z.radius != 5)
  rotate_left
  · have HB1 := Lib.hid hz5
    have HV := Lib.hid (show ¬s.Valid from fun v => by have := v.five z HZ.out; have h5 := HB1.out; rw [this] at h5; simp at h5)
    go_enter Tryd.func21, Tryd.ntmps21
    go_wp2_with (go_at_call 65; refine (ref3_in _ _ _ _).mono ?_; rintro e w' ⟨rfl, rfl⟩)
    go_ret
    exact ⟨ret_bool (bo_false HV.out).symm, (by repeat (first | assumption | exact Below.refl _ _ | apply bel_alloc | apply bel_drew | apply bel_drewN | (refine bel_set ?_ (by first | assumption | omega | (simp; done) | (simp; omega)) _)))⟩
  have HZ5 : Hid (z.radius = 5) := Lib.hid (by simpa using hz5)
  go_enter Tryd.func21, Tryd.ntmps21
  go_wp2_with (go_at_call 65; refine (ref3_in _ _ _ _).mono ?_; rintro e w' ⟨rfl, rfl⟩)
  clear hz5 z0' zb
  go_loopw [3] (fun v3 wr => ∃ k : Nat, k ≤ n2 ∧ v3 = .int .i64 k ∧ Hid (RowsOk s.rows k) ∧ Hid (Blk wr w.heap.size 30 #[.int .i64 s.least, .int .i64 s.most, .slice (some ad) n2 c2, .slice A3 9 c3]) ∧ Below w.heap.size w wr) (fun i _ => n2 - (intOf i).toNat)
  case atStart => exact ⟨0, Nat.zero_le _, rfl, RowsOk.zero _, Blk.new _ _ _, (by repeat (first | assumption | exact Below.refl _ _ | apply bel_alloc | apply bel_drew | apply bel_drewN | (refine bel_set ?_ (by first | assumption | omega | (simp; done) | (simp; omega)) _)))⟩
  case round =>
    obtain ⟨k, hk, rfl, HC, HK, HB⟩ := hrel
    have hB0 := HB.size
    have hK := HK.out.lt
    have k0 := HK.out.cell 0
    have k1 := HK.out.cell 1
    have k2 := HK.out.cell 2
    have k3 := HK.out.cell 3
    by_cases hlt : k < n2
    · obtain ⟨x, hx⟩ := H2.out.get hlt
      have HX := Lib.hid hx
      clear hx
      obtain ⟨ad', e, x0, x1, x2⟩ := (H2.out.below HB).atRow HX.out
      cases e
      have hd0 : 0 ≤ (k : Int) := by omega
      rcases hc1 : decide (x.least < 1)
      rotate_left
      · have HB1 := Lib.hid (bnd_no1 (a := x.least) (b := x.most) hc1)
        have HV := Lib.hid (show ¬s.Valid from fun v => row_no HX.out (.inl HB1.out) (v.rows k (by have := H2.out.1; omega)))
        go_wp2
        go_quiet (fail)
        (try clear q1 q2 q3 q4 q5)
        go_wp2
        go_ret
        exact ⟨ret_bool (bo_false HV.out).symm, (by repeat (first | assumption | exact Below.refl _ _ | apply bel_alloc | apply bel_drew | apply bel_drewN | (refine bel_set ?_ (by first | assumption | omega | (simp; done) | (simp; omega)) _)))⟩
      rcases hc2 : decide (x.most < x.least)
      rotate_left
      · have HB1 := Lib.hid (bnd_no2 (a := x.least) (b := x.most) hc2)
        have HV := Lib.hid (show ¬s.Valid from fun v => row_no HX.out (.inl HB1.out) (v.rows k (by have := H2.out.1; omega)))
        go_wp2
        go_quiet (fail)
        (try clear q1 q2 q3 q4 q5)
        go_wp2
        go_ret
        exact ⟨ret_bool (bo_false HV.out).symm, (by repeat (first | assumption | exact Below.refl _ _ | apply bel_alloc | apply bel_drew | apply bel_drewN | (refine bel_set ?_ (by first | assumption | omega | (simp; done) | (simp; omega)) _)))⟩
      rcases hc3 : decide (700 < x.most)
      rotate_left
      · have HB1 := Lib.hid (bnd_no3 (a := x.least) (b := x.most) hc3)
        have HV := Lib.hid (show ¬s.Valid from fun v => row_no HX.out (.inl HB1.out) (v.rows k (by have := H2.out.1; omega)))
        go_wp2
        go_quiet (fail)
        (try clear q1 q2 q3 q4 q5)
        go_wp2
        go_ret
        exact ⟨ret_bool (bo_false HV.out).symm, (by repeat (first | assumption | exact Below.refl _ _ | apply bel_alloc | apply bel_drew | apply bel_drewN | (refine bel_set ?_ (by first | assumption | omega | (simp; done) | (simp; omega)) _)))⟩
      have HBX := Lib.hid (bnd_yes hc1 hc2 hc3)
      rcases hc4 : decide (2000 < x.radius)
      rotate_left
      · have HB1 := Lib.hid hc4
        have HV := Lib.hid (show ¬s.Valid from fun v => row_no HX.out (.inr (.inl HB1.out)) (v.rows k (by have := H2.out.1; omega)))
        go_wp2
        go_quiet (fail)
        (try clear q1 q2 q3 q4 q5)
        go_wp2
        go_ret
        exact ⟨ret_bool (bo_false HV.out).symm, (by repeat (first | assumption | exact Below.refl _ _ | apply bel_alloc | apply bel_drew | apply bel_drewN | (refine bel_set ?_ (by first | assumption | omega | (simp; done) | (simp; omega)) _)))⟩
      rcases Nat.eq_zero_or_pos k with hz | hz
      · have hd : decide (0 < k) = false := by rw [hz]; rfl
        have HZ0 := Lib.hid hz
        clear hz
        have HR := Lib.hid (HC.out.succ (row_ok HX.out HBX.out hc4 (.inl HZ0.out)))
        go_wp2
        go_quiet (fail)
        (try clear q1 q2 q3 q4 q5)
        go_wp2
        go_roundw
        case rel => exact ⟨k + 1, by omega, by go_num, HR, HK.out.alloc _, (by repeat (first | assumption | exact Below.refl _ _ | apply bel_alloc | apply bel_drew | apply bel_drewN | (refine bel_set ?_ (by first | assumption | omega | (simp; done) | (simp; omega)) _)))⟩
        case measure => simp [intOf]; omega
      · obtain ⟨y, hy⟩ := H2.out.get (i := k - 1) (by omega)
        have HY := Lib.hid hy
        clear hy
        obtain ⟨ad', e, y0, y1, y2⟩ := (H2.out.below HB).atRow HY.out
        cases e
        have yb := World.block_lt_of_cell? _ _ y0
        have q1 : IntKind.i64.wrap ((k : Int) - 1) = (k : Int) - 1 := IntWalk.i64_in _ (by omega)
        have q2 : (0 : Int) ≤ (k : Int) - 1 := by omega
        have q3 : (1 : Int) ≤ (k : Int) := by omega
        have q4 : ((k : Int) - 1).toNat = k - 1 := by omega
        have q5 : (k : Int) - 1 < (n2 : Int) := by omega
        rcases hc5 : decide (x.radius ≤ y.radius)
        · have HB1 := Lib.hid hc5
          have HR := Lib.hid (HC.out.succ (row_ok HX.out HBX.out hc4 (.inr ⟨y, HY.out, HB1.out⟩)))
          go_wp2
          go_quiet (fail)
          (try clear q1 q2 q3 q4 q5)
          go_wp2
          go_roundw
          case rel => exact ⟨k + 1, by omega, by go_num, HR, HK.out.alloc _, (by repeat (first | assumption | exact Below.refl _ _ | apply bel_alloc | apply bel_drew | apply bel_drewN | (refine bel_set ?_ (by first | assumption | omega | (simp; done) | (simp; omega)) _)))⟩
          case measure => simp [intOf]; omega
        · have HB1 := Lib.hid hc5
          have HV := Lib.hid (show ¬s.Valid from fun v => row_no HX.out (.inr (.inr ⟨hz, y, HY.out, HB1.out⟩)) (v.rows k (by have := H2.out.1; omega)))
          go_wp2
          go_quiet (fail)
          (try clear q1 q2 q3 q4 q5)
          go_wp2
          go_ret
          exact ⟨ret_bool (bo_false HV.out).symm, (by repeat (first | assumption | exact Below.refl _ _ | apply bel_alloc | apply bel_drew | apply bel_drewN | (refine bel_set ?_ (by first | assumption | omega | (simp; done) | (simp; omega)) _)))⟩
    · obtain rfl : n2 = k := by omega
      go_wp2
      generalize hwr : wr = W1 at *
      clear hwr
      go_loop [5] (fun v5 => ∃ j : Nat, j ≤ 9 ∧ v5 = .int .i64 j ∧ Hid (∀ i y, i < j → s.surface[i]? = some y → inB y 1 100 = true)) (fun v5 => 9 - (intOf v5).toNat)
      case atStart => exact ⟨0, Nat.zero_le _, rfl, Lib.hid fun i y hi => by omega⟩
      case round =>
        obtain ⟨j, hj, rfl, HS⟩ := hrel
        by_cases hlt : j < 9
        · obtain ⟨x, hx⟩ := H3.out.get hlt
          have HX := Lib.hid hx
          clear hx
          obtain ⟨ad', e, x0⟩ := (H3.out.below HB).at1 HX.out
          cases e
          rcases hxb : inB x 1 100
          · have HV := Lib.hid (show ¬s.Valid from fun v => by rw [v.surface x (List.mem_of_getElem? HX.out)] at hxb; cases hxb)
            go_wp2_with (go_at_call 65; refine (ref3_in _ _ _ _).mono ?_; rintro e w' ⟨rfl, rfl⟩)
            go_ret
            exact ⟨ret_bool (bo_false HV.out).symm, HB⟩
          · have HR := Lib.hid (show ∀ i y, i < j + 1 → s.surface[i]? = some y → inB y 1 100 = true from fun i y hi hy => by
              rcases Nat.lt_or_ge i j with hl | hl
              · exact HS.out i y hl hy
              · obtain rfl : i = j := by omega
                rw [HX.out] at hy
                cases hy
                exact hxb)
            go_wp2_with (go_at_call 65; refine (ref3_in _ _ _ _).mono ?_; rintro e w' ⟨rfl, rfl⟩)
            go_round
            case rel => exact ⟨j + 1, by omega, by go_num, HR⟩
            case measure => simp [intOf]; omega
        · obtain rfl : j = 9 := by omega
          have HV := Lib.hid (show s.Valid from ⟨HBD.out, by have := H2.out.1; omega, by have := H2.out.1; omega, H3.out.1, fun y hy => by rw [HZ.out] at hy; cases hy; exact HZ5.out, by rw [H2.out.1]; exact HC.out, fun y hy => by
            obtain ⟨i, hi, rfl⟩ := List.mem_iff_getElem.1 hy
            exact HS.out i _ (by have := H3.out.1; omega) (List.getElem?_eq_getElem hi)⟩)
          go_wp2
          go_ret
          exact ⟨ret_bool (bo_true HV.out).symm, HB⟩
end Go.Proofs.YtinglbcafcjhfaaDoor
