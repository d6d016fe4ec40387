/- The contract of (*track).calls: which calls are as defined. -/
import Derived.Test.YtinglbcafcjhfaaDoorPaceT
namespace Go.Proofs.YtinglbcafcjhfaaDoor
open Go.RowKit
set_option linter.unusedVariables false
set_option linter.unusedSimpArgs false
set_option maxRecDepth 100000 in
set_option maxHeartbeats 4000000 in
theorem track_calls {w : World} {g N : Nat} {sums : List (Int × Int)} {s0 s1 s2 : Value} (l : List Call) (A : Option Addr) (n c : Nat) (h : IsTrack w g sums s0 s1 s2 N) (h1 : Rd 5 Call.enc w A n l) :
    Calls Tryd.prog 71 #[.pointer (some ⟨g, 0, none⟩), .slice A n c] w fun e w' => e = .returned (.bool (bo (CallsOk N l))) ∧ Below w.heap.size w w' := by
  have m1 := h1.2.1
  have HT := Lib.hid h
  have H1 := Lib.hid h1
  clear h h1
  go_enter Tryd.func71, Tryd.ntmps71
  go_wp2
  go_loopw [9] (fun v9 wr => ∃ k : Nat, k ≤ n ∧ v9 = .int .i64 k ∧ Hid (CallsUp N l k) ∧ Below w.heap.size w wr) (fun v9 _ => n - (intOf v9).toNat)
  case atStart => exact ⟨0, Nat.zero_le _, rfl, Lib.hid fun j hj => absurd hj (by omega), Below.refl _ _⟩
  case round =>
    obtain ⟨k, hk, rfl, HP, HB⟩ := hrel
    by_cases hlt : k < n
    · obtain ⟨x, hx⟩ := H1.out.get hlt
      have HX := Lib.hid hx
      clear hx
      obtain ⟨ad, e, x0, x1, x2, x3, x4⟩ := (H1.out.below HB).atCall HX.out
      cases e
      rcases hb1 : inB x.place 0 N
      · go_wp2; go_quiet ((first | (go_at_call 59; exact quiet_eq (track_place _ (IsTrack.drewN (HT.out.below (by repeat (first | assumption | exact Below.refl _ _ | apply bel_alloc | apply bel_drew | apply bel_drewN | (refine bel_set ?_ (by first | assumption | omega | (simp; done) | (simp; omega)) _)))) _))) | (go_at_call 62; exact quiet_eq (pace_within _ _ _ _)))); (try clear q1 q2 q3 q4 q5); go_wp2
        go_ret
        exact ⟨ret_bool (bo_false fun v => Call.no1 HX.out hb1 (v.2 k (by have := H1.out.1; omega))).symm, (by repeat (first | assumption | exact Below.refl _ _ | apply bel_alloc | apply bel_drew | apply bel_drewN | (refine bel_set ?_ (by first | assumption | omega | (simp; done) | (simp; omega)) _)))⟩
      rcases Nat.eq_zero_or_pos k with hz | hz
      · have hd : decide (0 < k) = false := by rw [hz]; rfl
        have HZ := Lib.hid hz
        clear hz
        rcases hf0 : inB x.lasts 0 1125899906842624
        · have hnf : Hid (¬x.Fine) := Lib.hid fun hh => by rw [hh.1] at hf0; cases hf0
          go_wp2; go_quiet ((first | (go_at_call 59; exact quiet_eq (track_place _ (IsTrack.drewN (HT.out.below (by repeat (first | assumption | exact Below.refl _ _ | apply bel_alloc | apply bel_drew | apply bel_drewN | (refine bel_set ?_ (by first | assumption | omega | (simp; done) | (simp; omega)) _)))) _))) | (go_at_call 62; exact quiet_eq (pace_within _ _ _ _)))); (try clear q1 q2 q3 q4 q5); go_wp2
          go_ret
          exact ⟨ret_bool (bo_false fun v => Call.no3 HX.out hnf.out (v.2 k (by have := H1.out.1; omega))).symm, (by repeat (first | assumption | exact Below.refl _ _ | apply bel_alloc | apply bel_drew | apply bel_drewN | (refine bel_set ?_ (by first | assumption | omega | (simp; done) | (simp; omega)) _)))⟩
        rcases hf1 : inB x.lead 0 1125899906842624
        · have hnf : Hid (¬x.Fine) := Lib.hid fun hh => by rw [hh.2.1] at hf1; cases hf1
          go_wp2; go_quiet ((first | (go_at_call 59; exact quiet_eq (track_place _ (IsTrack.drewN (HT.out.below (by repeat (first | assumption | exact Below.refl _ _ | apply bel_alloc | apply bel_drew | apply bel_drewN | (refine bel_set ?_ (by first | assumption | omega | (simp; done) | (simp; omega)) _)))) _))) | (go_at_call 62; exact quiet_eq (pace_within _ _ _ _)))); (try clear q1 q2 q3 q4 q5); go_wp2
          go_ret
          exact ⟨ret_bool (bo_false fun v => Call.no3 HX.out hnf.out (v.2 k (by have := H1.out.1; omega))).symm, (by repeat (first | assumption | exact Below.refl _ _ | apply bel_alloc | apply bel_drew | apply bel_drewN | (refine bel_set ?_ (by first | assumption | omega | (simp; done) | (simp; omega)) _)))⟩
        rcases hf2 : inB x.ahead 0 1125899906842624
        · have hnf : Hid (¬x.Fine) := Lib.hid fun hh => by rw [hh.2.2.1] at hf2; cases hf2
          go_wp2; go_quiet ((first | (go_at_call 59; exact quiet_eq (track_place _ (IsTrack.drewN (HT.out.below (by repeat (first | assumption | exact Below.refl _ _ | apply bel_alloc | apply bel_drew | apply bel_drewN | (refine bel_set ?_ (by first | assumption | omega | (simp; done) | (simp; omega)) _)))) _))) | (go_at_call 62; exact quiet_eq (pace_within _ _ _ _)))); (try clear q1 q2 q3 q4 q5); go_wp2
          go_ret
          exact ⟨ret_bool (bo_false fun v => Call.no3 HX.out hnf.out (v.2 k (by have := H1.out.1; omega))).symm, (by repeat (first | assumption | exact Below.refl _ _ | apply bel_alloc | apply bel_drew | apply bel_drewN | (refine bel_set ?_ (by first | assumption | omega | (simp; done) | (simp; omega)) _)))⟩
        rcases hf3 : inB x.value 0 100
        · have hnf : Hid (¬x.Fine) := Lib.hid fun hh => by rw [hh.2.2.2] at hf3; cases hf3
          go_wp2; go_quiet ((first | (go_at_call 59; exact quiet_eq (track_place _ (IsTrack.drewN (HT.out.below (by repeat (first | assumption | exact Below.refl _ _ | apply bel_alloc | apply bel_drew | apply bel_drewN | (refine bel_set ?_ (by first | assumption | omega | (simp; done) | (simp; omega)) _)))) _))) | (go_at_call 62; exact quiet_eq (pace_within _ _ _ _)))); (try clear q1 q2 q3 q4 q5); go_wp2
          go_ret
          exact ⟨ret_bool (bo_false fun v => Call.no3 HX.out hnf.out (v.2 k (by have := H1.out.1; omega))).symm, (by repeat (first | assumption | exact Below.refl _ _ | apply bel_alloc | apply bel_drew | apply bel_drewN | (refine bel_set ?_ (by first | assumption | omega | (simp; done) | (simp; omega)) _)))⟩
        have hyf : Hid x.Fine := Lib.hid ⟨hf0, hf1, hf2, hf3⟩
        go_wp2; go_quiet ((first | (go_at_call 59; exact quiet_eq (track_place _ (IsTrack.drewN (HT.out.below (by repeat (first | assumption | exact Below.refl _ _ | apply bel_alloc | apply bel_drew | apply bel_drewN | (refine bel_set ?_ (by first | assumption | omega | (simp; done) | (simp; omega)) _)))) _))) | (go_at_call 62; exact quiet_eq (pace_within _ _ _ _)))); (try clear q1 q2 q3 q4 q5); go_wp2
        go_roundw
        case rel => exact ⟨k + 1, by omega, by go_num, HP.out.succ (Call.yes HX.out hb1 (.inl HZ.out) hyf.out), (by repeat (first | assumption | exact Below.refl _ _ | apply bel_alloc | apply bel_drew | apply bel_drewN | (refine bel_set ?_ (by first | assumption | omega | (simp; done) | (simp; omega)) _)))⟩
        case measure => simp [intOf]; omega
      · obtain ⟨y, hy⟩ := H1.out.get (i := k - 1) (by omega)
        have HY := Lib.hid hy
        clear hy
        obtain ⟨ad', e, y0, y1, y2, y3, y4⟩ := (H1.out.below HB).atCall HY.out
        cases e
        have yb := World.block_lt_of_cell? _ _ y0
        have q1 : IntKind.i64.wrap ((k : Int) - 1) = (k : Int) - 1 := IntWalk.i64_in _ (by omega)
        have q2 : (0 : Int) ≤ (k : Int) - 1 := by omega
        have q3 : (1 : Int) ≤ (k : Int) := by omega
        have q4 : ((k : Int) - 1).toNat = k - 1 := by omega
        have q5 : (k : Int) - 1 < (n : Int) := by omega
        rcases hb2 : decide (x.place < y.place)
        rotate_left
        · go_wp2; go_quiet ((first | (go_at_call 59; exact quiet_eq (track_place _ (IsTrack.drewN (HT.out.below (by repeat (first | assumption | exact Below.refl _ _ | apply bel_alloc | apply bel_drew | apply bel_drewN | (refine bel_set ?_ (by first | assumption | omega | (simp; done) | (simp; omega)) _)))) _))) | (go_at_call 62; exact quiet_eq (pace_within _ _ _ _)))); (try clear q1 q2 q3 q4 q5); go_wp2
          go_ret
          exact ⟨ret_bool (bo_false fun v => Call.no2 HX.out hz HY.out hb2 (v.2 k (by have := H1.out.1; omega))).symm, (by repeat (first | assumption | exact Below.refl _ _ | apply bel_alloc | apply bel_drew | apply bel_drewN | (refine bel_set ?_ (by first | assumption | omega | (simp; done) | (simp; omega)) _)))⟩
        rcases hf0 : inB x.lasts 0 1125899906842624
        · have hnf : Hid (¬x.Fine) := Lib.hid fun hh => by rw [hh.1] at hf0; cases hf0
          go_wp2; go_quiet ((first | (go_at_call 59; exact quiet_eq (track_place _ (IsTrack.drewN (HT.out.below (by repeat (first | assumption | exact Below.refl _ _ | apply bel_alloc | apply bel_drew | apply bel_drewN | (refine bel_set ?_ (by first | assumption | omega | (simp; done) | (simp; omega)) _)))) _))) | (go_at_call 62; exact quiet_eq (pace_within _ _ _ _)))); (try clear q1 q2 q3 q4 q5); go_wp2
          go_ret
          exact ⟨ret_bool (bo_false fun v => Call.no3 HX.out hnf.out (v.2 k (by have := H1.out.1; omega))).symm, (by repeat (first | assumption | exact Below.refl _ _ | apply bel_alloc | apply bel_drew | apply bel_drewN | (refine bel_set ?_ (by first | assumption | omega | (simp; done) | (simp; omega)) _)))⟩
        rcases hf1 : inB x.lead 0 1125899906842624
        · have hnf : Hid (¬x.Fine) := Lib.hid fun hh => by rw [hh.2.1] at hf1; cases hf1
          go_wp2; go_quiet ((first | (go_at_call 59; exact quiet_eq (track_place _ (IsTrack.drewN (HT.out.below (by repeat (first | assumption | exact Below.refl _ _ | apply bel_alloc | apply bel_drew | apply bel_drewN | (refine bel_set ?_ (by first | assumption | omega | (simp; done) | (simp; omega)) _)))) _))) | (go_at_call 62; exact quiet_eq (pace_within _ _ _ _)))); (try clear q1 q2 q3 q4 q5); go_wp2
          go_ret
          exact ⟨ret_bool (bo_false fun v => Call.no3 HX.out hnf.out (v.2 k (by have := H1.out.1; omega))).symm, (by repeat (first | assumption | exact Below.refl _ _ | apply bel_alloc | apply bel_drew | apply bel_drewN | (refine bel_set ?_ (by first | assumption | omega | (simp; done) | (simp; omega)) _)))⟩
        rcases hf2 : inB x.ahead 0 1125899906842624
        · have hnf : Hid (¬x.Fine) := Lib.hid fun hh => by rw [hh.2.2.1] at hf2; cases hf2
          go_wp2; go_quiet ((first | (go_at_call 59; exact quiet_eq (track_place _ (IsTrack.drewN (HT.out.below (by repeat (first | assumption | exact Below.refl _ _ | apply bel_alloc | apply bel_drew | apply bel_drewN | (refine bel_set ?_ (by first | assumption | omega | (simp; done) | (simp; omega)) _)))) _))) | (go_at_call 62; exact quiet_eq (pace_within _ _ _ _)))); (try clear q1 q2 q3 q4 q5); go_wp2
          go_ret
          exact ⟨ret_bool (bo_false fun v => Call.no3 HX.out hnf.out (v.2 k (by have := H1.out.1; omega))).symm, (by repeat (first | assumption | exact Below.refl _ _ | apply bel_alloc | apply bel_drew | apply bel_drewN | (refine bel_set ?_ (by first | assumption | omega | (simp; done) | (simp; omega)) _)))⟩
        rcases hf3 : inB x.value 0 100
        · have hnf : Hid (¬x.Fine) := Lib.hid fun hh => by rw [hh.2.2.2] at hf3; cases hf3
          go_wp2; go_quiet ((first | (go_at_call 59; exact quiet_eq (track_place _ (IsTrack.drewN (HT.out.below (by repeat (first | assumption | exact Below.refl _ _ | apply bel_alloc | apply bel_drew | apply bel_drewN | (refine bel_set ?_ (by first | assumption | omega | (simp; done) | (simp; omega)) _)))) _))) | (go_at_call 62; exact quiet_eq (pace_within _ _ _ _)))); (try clear q1 q2 q3 q4 q5); go_wp2
          go_ret
          exact ⟨ret_bool (bo_false fun v => Call.no3 HX.out hnf.out (v.2 k (by have := H1.out.1; omega))).symm, (by repeat (first | assumption | exact Below.refl _ _ | apply bel_alloc | apply bel_drew | apply bel_drewN | (refine bel_set ?_ (by first | assumption | omega | (simp; done) | (simp; omega)) _)))⟩
        have hyf : Hid x.Fine := Lib.hid ⟨hf0, hf1, hf2, hf3⟩
        go_wp2; go_quiet ((first | (go_at_call 59; exact quiet_eq (track_place _ (IsTrack.drewN (HT.out.below (by repeat (first | assumption | exact Below.refl _ _ | apply bel_alloc | apply bel_drew | apply bel_drewN | (refine bel_set ?_ (by first | assumption | omega | (simp; done) | (simp; omega)) _)))) _))) | (go_at_call 62; exact quiet_eq (pace_within _ _ _ _)))); (try clear q1 q2 q3 q4 q5); go_wp2
        go_roundw
        case rel => exact ⟨k + 1, by omega, by go_num, HP.out.succ (Call.yes HX.out hb1 (.inr ⟨y, HY.out, hb2⟩) hyf.out), (by repeat (first | assumption | exact Below.refl _ _ | apply bel_alloc | apply bel_drew | apply bel_drewN | (refine bel_set ?_ (by first | assumption | omega | (simp; done) | (simp; omega)) _)))⟩
        case measure => simp [intOf]; omega
    · obtain rfl : n = k := by omega
      go_wp2
      go_ret
      refine ⟨ret_bool ?_, HB⟩
      rw [Bool.eq_iff_iff, bo_iff]
      have e1 := H1.out.1
      have e2 : CallsUp N l l.length := by rw [e1]; exact HP.out
      go_light
      simp only [decide_eq_true_eq]
      exact ⟨fun hh => ⟨by omega, e2⟩, fun hh => by have := hh.1; omega⟩
end Go.Proofs.YtinglbcafcjhfaaDoor
