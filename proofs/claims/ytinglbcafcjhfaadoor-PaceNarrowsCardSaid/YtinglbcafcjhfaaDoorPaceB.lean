/- The contract of pace.Check. -/
import Derived.Test.YtinglbcafcjhfaaDoorPaceBase
namespace Go.Proofs.YtinglbcafcjhfaaDoor
open Go.RowKit
set_option linter.unusedVariables false
set_option linter.unusedSimpArgs false

theorem call_Check1 : ∀ a W, Sem.run Tryd.prog (callFunc 64 a) W = .ok (.enter 64 a) W := fun _ _ => by kernel_rfl

set_option maxRecDepth 100000 in
set_option maxHeartbeats 1000000 in
theorem pace_Check (s : Speeds) (A2 A3 : Option Addr) (n2 n3 c2 c3 : Nat) (w : World) (h2 : Rd 3 SpeedRow.enc w A2 n2 s.rows) (h3 : Rd 1 intEnc w A3 n3 s.surface) :
    Calls Tryd.prog 20 #[.agg #[.int .i64 s.least, .int .i64 s.most, .slice A2 n2 c2, .slice A3 n3 c3]] w fun e w' => e = .returned (.int .i64 s.chk) ∧ Below w.heap.size w w' := by
  have m2 := h2.2.1
  have m3 := h3.2.1
  have H2 := Lib.hid h2
  have H3 := Lib.hid h3
  clear h2 h3
  rcases hb1 : bnd s.least s.most
  · have hv : ¬s.Valid := fun v => by rw [v.bounds] at hb1; cases hb1
    have HV := Lib.hid hv
    clear hv
    go_enter Tryd.func20, Tryd.ntmps20
    go_wp2_with (first | (go_at_call 61; refine (pace_bounds _ _ _).mono ?_; rintro e w' ⟨rfl, rfl⟩) | (go_at_call 62; refine (pace_within _ _ _ _).mono ?_; rintro e w' ⟨rfl, rfl⟩))
    go_ret
    exact ⟨ret_int (Speeds.chk_no HV.out).symm, (by repeat (first | assumption | exact Below.refl _ _ | apply bel_alloc | apply bel_drew | apply bel_drewN | (refine bel_set ?_ (by first | assumption | omega | (simp; done) | (simp; omega)) _)))⟩
  rcases hb2 : inB n2 1 30
  · have hv : ¬s.Valid := fun v => by
      have := v.some_
      have := v.few
      have := H2.out.1
      rw [inB_iff_false] at hb2
      omega
    have HV := Lib.hid hv
    clear hv
    go_enter Tryd.func20, Tryd.ntmps20
    go_wp2_with (first | (go_at_call 61; refine (pace_bounds _ _ _).mono ?_; rintro e w' ⟨rfl, rfl⟩) | (go_at_call 62; refine (pace_within _ _ _ _).mono ?_; rintro e w' ⟨rfl, rfl⟩))
    go_ret
    exact ⟨ret_int (Speeds.chk_no HV.out).symm, (by repeat (first | assumption | exact Below.refl _ _ | apply bel_alloc | apply bel_drew | apply bel_drewN | (refine bel_set ?_ (by first | assumption | omega | (simp; done) | (simp; omega)) _)))⟩
  have hn2 := inB_iff.1 hb2
  obtain ⟨hn2a, hn2b⟩ := hn2
  by_cases hn3 : n3 = 9
  · subst hn3
    obtain ⟨z, hz⟩ := H2.out.get (i := 0) (by omega)
    have HZ := Lib.hid hz
    clear hz
    obtain ⟨ad, e, z0, z1, z2⟩ := H2.out.atRow HZ.out
    cases e
    have z0' : w.cell? ad = some (.int .i64 z.radius) := by rw [Nat.zero_mul, add_zero_] at z0; exact z0
    have zb : ad.block < w.heap.size := World.block_lt_of_cell? _ _ z0'
    clear z0 z1 z2
    rcases hz5 : z.radius == 5
    · have hz5' : (z.radius != 5) = true := by rw [bne, hz5]; rfl
      have hv : ¬s.Valid := fun v => by
        have := v.five z HZ.out
        rw [this] at hz5
        simp at hz5
      have HV := Lib.hid hv
      clear hv
      go_enter Tryd.func20, Tryd.ntmps20
      go_wp2_with (first | (go_at_call 61; refine (pace_bounds _ _ _).mono ?_; rintro e w' ⟨rfl, rfl⟩) | (go_at_call 62; refine (pace_within _ _ _ _).mono ?_; rintro e w' ⟨rfl, rfl⟩))
      go_ret
      exact ⟨ret_int (Speeds.chk_no HV.out).symm, (by repeat (first | assumption | exact Below.refl _ _ | apply bel_alloc | apply bel_drew | apply bel_drewN | (refine bel_set ?_ (by first | assumption | omega | (simp; done) | (simp; omega)) _)))⟩
    · have hz5' : (z.radius != 5) = false := by rw [bne, hz5]; rfl
      go_enter Tryd.func20, Tryd.ntmps20
      go_wp2_with (first | (go_at_call 61; refine (pace_bounds _ _ _).mono ?_; rintro e w' ⟨rfl, rfl⟩) | (go_at_call 62; refine (pace_within _ _ _ _).mono ?_; rintro e w' ⟨rfl, rfl⟩))
      have HZ5 : Hid (z.radius = 5) := Lib.hid (by simpa using hz5)
      clear hz5 hz5' z0' zb
      go_loopw [35] (fun v35 wr => ∃ k : Nat, k ≤ n2 ∧ v35 = .int .i64 k ∧ Hid (RowsOk s.rows k) ∧ Hid (Blk wr w.heap.size 30 #[.int .i64 s.least, .int .i64 s.most, .slice (some ad) n2 c2, .slice A3 9 c3]) ∧ Below w.heap.size w wr) (fun i _ => n2 - (intOf i).toNat)
      case atStart => exact ⟨0, Nat.zero_le _, rfl, RowsOk.zero _, Blk.new _ _ _, (by repeat (first | assumption | exact Below.refl _ _ | apply bel_alloc | apply bel_drew | apply bel_drewN | (refine bel_set ?_ (by first | assumption | omega | (simp; done) | (simp; omega)) _)))⟩
      case round =>
        obtain ⟨k, hk, rfl, HC, HK, HB⟩ := hrel
        have hB0 := HB.size
        have hK := HK.out.lt
        have k0 := HK.out.cell 0
        have k1 := HK.out.cell 1
        have k2 := HK.out.cell 2
        have k3 := HK.out.cell 3
        by_cases hlt : k < n2
        · obtain ⟨x, hx⟩ := H2.out.get hlt
          have HX := Lib.hid hx
          clear hx
          obtain ⟨ad', e, x0, x1, x2⟩ := (H2.out.below HB).atRow HX.out
          cases e
          rcases hc1 : bnd x.least x.most <;> rcases hc2 : decide (2000 < x.radius)
          all_goals
            rcases Nat.eq_zero_or_pos k with hz | hz
            · have hd : decide (0 < k) = false := by rw [hz]; rfl
              have HZ0 := Lib.hid hz
              clear hz
              go_wp2
              go_quiet ((go_at_call 61; exact quiet_eq (pace_bounds _ _ _)))
              go_wp2
              first
                | (go_roundw
                   case rel => exact ⟨k + 1, by omega, by go_num, HC.out.succ (row_ok HX.out hc1 hc2 (.inl HZ0.out)), HK.out.alloc _, (by repeat (first | assumption | exact Below.refl _ _ | apply bel_alloc | apply bel_drew | apply bel_drewN | (refine bel_set ?_ (by first | assumption | omega | (simp; done) | (simp; omega)) _)))⟩
                   case measure => simp [intOf]; omega)
                | (go_ret
                   exact ⟨ret_int (Speeds.chk_no fun v => row_no HX.out (by first | exact .inl hc1 | exact .inr (.inl hc2)) (v.rows k (by have := H2.out.1; omega))).symm, (by repeat (first | assumption | exact Below.refl _ _ | apply bel_alloc | apply bel_drew | apply bel_drewN | (refine bel_set ?_ (by first | assumption | omega | (simp; done) | (simp; omega)) _)))⟩)
            · obtain ⟨y, hy⟩ := H2.out.get (i := k - 1) (by omega)
              have HY := Lib.hid hy
              clear hy
              obtain ⟨ad', e, y0, y1, y2⟩ := (H2.out.below HB).atRow HY.out
              cases e
              have yb := World.block_lt_of_cell? _ _ y0
              have q1 : IntKind.i64.wrap ((k : Int) - 1) = (k : Int) - 1 := IntWalk.i64_in _ (by omega)
              have q2 : (0 : Int) ≤ (k : Int) - 1 := by omega
              have q3 : (1 : Int) ≤ (k : Int) := by omega
              have q4 : ((k : Int) - 1).toNat = k - 1 := by omega
              have q5 : (k : Int) - 1 < (n2 : Int) := by omega
              go_wp2
              rcases hc3 : decide (x.radius ≤ y.radius)
              all_goals
                go_quiet ((go_at_call 61; exact quiet_eq (pace_bounds _ _ _)))
                clear q1 q2 q3 q4 q5
                go_wp2
                first
                  | (go_roundw
                     case rel => exact ⟨k + 1, by omega, by go_num, HC.out.succ (row_ok HX.out hc1 hc2 (.inr ⟨y, HY.out, hc3⟩)), HK.out.alloc _, (by repeat (first | assumption | exact Below.refl _ _ | apply bel_alloc | apply bel_drew | apply bel_drewN | (refine bel_set ?_ (by first | assumption | omega | (simp; done) | (simp; omega)) _)))⟩
                     case measure => simp [intOf]; omega)
                  | (go_ret
                     exact ⟨ret_int (Speeds.chk_no fun v => row_no HX.out (by first | exact .inl hc1 | exact .inr (.inl hc2) | exact .inr (.inr ⟨hz, y, HY.out, hc3⟩)) (v.rows k (by have := H2.out.1; omega))).symm, (by repeat (first | assumption | exact Below.refl _ _ | apply bel_alloc | apply bel_drew | apply bel_drewN | (refine bel_set ?_ (by first | assumption | omega | (simp; done) | (simp; omega)) _)))⟩)
        · obtain rfl : n2 = k := by omega
          rcases hs : s.surface.any (fun x => !inB x 1 100)
          all_goals
            go_wp2_with (go_at_call 63; refine (contains_int 64 (fun x => !inB x 1 100) s.surface _ _ _ _ (H3.out.below (by repeat (first | assumption | exact Below.refl _ _ | apply bel_alloc | apply bel_drew | apply bel_drewN | (refine bel_set ?_ (by first | assumption | omega | (simp; done) | (simp; omega)) _)))) call_Check1 (fun x => pace_Check1 x _)).mono ?_; rintro e w' ⟨rfl, rfl⟩)
            go_ret
          · refine ⟨ret_int (Speeds.chk_ok ⟨hb1, by have := H2.out.1; omega, by have := H2.out.1; omega, H3.out.1, ?_, by rw [H2.out.1]; exact HC.out, ?_⟩).symm, HB⟩
            · intro y hy
              rw [HZ.out] at hy
              cases hy
              exact HZ5.out
            · intro y hy
              rw [List.any_eq_false] at hs
              simpa using hs y hy
          · refine ⟨ret_int (Speeds.chk_no fun v => ?_).symm, HB⟩
            rw [List.any_eq_true] at hs
            obtain ⟨y, hy, hh⟩ := hs
            rw [v.surface y hy] at hh
            cases hh
  · have hn3a : ((n3 : Int) == 9) = false := by simp; omega
    have hn3b : ((n3 : Int) != 9) = true := by simp; omega
    have hv : ¬s.Valid := fun v => by
      have := v.nine
      have := H3.out.1
      omega
    have HV := Lib.hid hv
    clear hv hn3
    go_enter Tryd.func20, Tryd.ntmps20
    go_wp2_with (first | (go_at_call 61; refine (pace_bounds _ _ _).mono ?_; rintro e w' ⟨rfl, rfl⟩) | (go_at_call 62; refine (pace_within _ _ _ _).mono ?_; rintro e w' ⟨rfl, rfl⟩))
    go_ret
    exact ⟨ret_int (Speeds.chk_no HV.out).symm, (by repeat (first | assumption | exact Below.refl _ _ | apply bel_alloc | apply bel_drew | apply bel_drewN | (refine bel_set ?_ (by first | assumption | omega | (simp; done) | (simp; omega)) _)))⟩
end Go.Proofs.YtinglbcafcjhfaaDoor
