/- Notes as data, and which are as defined: the contracts of note.within, note.Valid and of the reference's. -/
import Derived.Test.YtinglbcafcjhfaaDoorProg
import Derived.Test.YtinglbcafcjhfaaDoorPaceBase
import Derived.Deep.DeepMust
import Derived.Outline
namespace Go.Proofs.YtinglbcafcjhfaaDoor
open Go.RowKit
set_option linter.unusedVariables false
set_option linter.unusedSimpArgs false

structure Note where
  (kind turn grade long change to_ meters size way arms : Int)
def Note.enc (n : Note) : List Int := [n.kind, n.turn, n.grade, n.long, n.change, n.to_, n.meters, n.size, n.way, n.arms]
theorem Note.enc_len (n : Note) : n.enc.length = 10 := rfl
abbrev Note.cells (n : Note) : Array Value := #[.int .i64 n.kind, .int .i64 n.turn, .int .i64 n.grade, .int .i64 n.long, .int .i64 n.change, .int .i64 n.to_, .int .i64 n.meters, .int .i64 n.size, .int .i64 n.way, .int .i64 n.arms]
def Note.rest (n : Note) : Prop := n.turn = 0 ∧ n.grade = 0 ∧ n.long = 0 ∧ n.change = 0 ∧ n.to_ = 0
def Note.Valid (n : Note) : Prop :=
  (n.kind = 1 ∧ (n.turn = -1 ∨ n.turn = 1) ∧ 1 ≤ n.grade ∧ n.grade ≤ 9 ∧ -1 ≤ n.long ∧ n.long ≤ 1 ∧ -1 ≤ n.change ∧ n.change ≤ 1 ∧ (n.change = 0 → n.to_ = 0) ∧ (n.change = -1 → n.grade + 1 ≤ n.to_ ∧ n.to_ ≤ 9) ∧ (n.change = 1 → 1 ≤ n.to_ ∧ n.to_ ≤ n.grade - 1) ∧ n.meters = 0 ∧ n.size = 0 ∧ n.way = 0 ∧ n.arms = 0) ∨
  (n.kind = 2 ∧ 1 ≤ n.meters ∧ n.meters ≤ 9999 ∧ n.rest ∧ n.size = 0 ∧ n.way = 0 ∧ n.arms = 0) ∨
  ((n.kind = 3 ∨ n.kind = 4) ∧ n.rest ∧ n.meters = 0 ∧ n.size = 0 ∧ n.way = 0 ∧ n.arms = 0) ∨
  ((n.kind = 5 ∨ n.kind = 6) ∧ 1 ≤ n.size ∧ n.size ≤ 3 ∧ n.rest ∧ n.meters = 0 ∧ n.way = 0 ∧ n.arms = 0) ∨
  (n.kind = 7 ∧ 2 ≤ n.arms ∧ n.arms ≤ 6 ∧ 1 ≤ n.way ∧ n.way ≤ n.arms ∧ n.rest ∧ n.meters = 0 ∧ n.size = 0)
theorem note_within (x a b : Int) (w : World) : Calls Tryd.prog 134 #[.int .i64 x, .int .i64 a, .int .i64 b] w fun e w' => e = .returned (.bool (inB x a b)) ∧ w = w' := by
  by_cases h : a ≤ x
  · have h1 : decide (a ≤ x) = true := decide_eq_true h
    go_enter Tryd.func134, Tryd.ntmps134
    go_wp2
    go_ret
    exact ⟨by simp [inB, h], rfl⟩
  · have h1 : decide (a ≤ x) = false := decide_eq_false h
    go_enter Tryd.func134, Tryd.ntmps134
    go_wp2
    go_ret
    exact ⟨by simp [inB]; omega, rfl⟩
set_option maxRecDepth 100000 in
set_option maxHeartbeats 4000000 in
theorem note_Valid (n : Note) (w : World) : Calls Tryd.prog 123 #[.agg n.cells] w fun e w' => e = .returned (.bool (bo n.Valid)) ∧ Below w.heap.size w w' := by
  obtain ⟨k, a, b, c, d, f, g, h, i, j⟩ := n
  dsimp only [Note.cells]
  obtain ⟨V, hV⟩ : ∃ V, bo (Note.Valid ⟨k, a, b, c, d, f, g, h, i, j⟩) = V := ⟨_, rfl⟩
  rw [hV]
  have HV := Lib.hid hV
  clear hV
  by_cases hk : k = 1
  · subst hk
    by_cases ha : a = -1
    · subst ha
      rcases hb_b : inB b 1 9
      · have hq := inB_iff_false.1 hb_b
        have hv : V = false := by rw [← HV.out]; exact bo_false (by first | (simp only [Note.Valid, Note.rest]; omega) | (simp [Note.Valid, Note.rest] <;> omega))
        subst hv
        clear hq
        clear HV
        go_enter Tryd.func123, Tryd.ntmps123
        go_wp2_with (go_at_call 134; refine (note_within _ _ _ _).mono ?_; rintro e w' ⟨rfl, rfl⟩)
        all_goals first | (go_ret; exact ⟨rfl, (by repeat (first | assumption | exact Below.refl _ _ | apply bel_alloc | apply bel_drew | apply bel_drewN | (refine bel_set ?_ (by first | assumption | omega | (simp; done) | (simp; omega)) _)))⟩) | (exfalso; exact HZ.out (by repeat' (first | assumption | apply And.intro)))
      obtain ⟨hl_b, hu_b⟩ := inB_iff.1 hb_b
      rcases hb_c : inB c (-1) 1
      · have hq := inB_iff_false.1 hb_c
        have hv : V = false := by rw [← HV.out]; exact bo_false (by first | (simp only [Note.Valid, Note.rest]; omega) | (simp [Note.Valid, Note.rest] <;> omega))
        subst hv
        clear hq
        clear HV
        go_enter Tryd.func123, Tryd.ntmps123
        go_wp2_with (go_at_call 134; refine (note_within _ _ _ _).mono ?_; rintro e w' ⟨rfl, rfl⟩)
        all_goals first | (go_ret; exact ⟨rfl, (by repeat (first | assumption | exact Below.refl _ _ | apply bel_alloc | apply bel_drew | apply bel_drewN | (refine bel_set ?_ (by first | assumption | omega | (simp; done) | (simp; omega)) _)))⟩) | (exfalso; exact HZ.out (by repeat' (first | assumption | apply And.intro)))
      obtain ⟨hl_c, hu_c⟩ := inB_iff.1 hb_c
      rcases hb_d : inB d (-1) 1
      · have hq := inB_iff_false.1 hb_d
        have hv : V = false := by rw [← HV.out]; exact bo_false (by first | (simp only [Note.Valid, Note.rest]; omega) | (simp [Note.Valid, Note.rest] <;> omega))
        subst hv
        clear hq
        clear HV
        go_enter Tryd.func123, Tryd.ntmps123
        go_wp2_with (go_at_call 134; refine (note_within _ _ _ _).mono ?_; rintro e w' ⟨rfl, rfl⟩)
        all_goals first | (go_ret; exact ⟨rfl, (by repeat (first | assumption | exact Below.refl _ _ | apply bel_alloc | apply bel_drew | apply bel_drewN | (refine bel_set ?_ (by first | assumption | omega | (simp; done) | (simp; omega)) _)))⟩) | (exfalso; exact HZ.out (by repeat' (first | assumption | apply And.intro)))
      obtain ⟨hl_d, hu_d⟩ := inB_iff.1 hb_d
      obtain rfl | rfl | rfl : d = -1 ∨ d = 0 ∨ d = 1 := by omega
      · clear hb_d hl_d hu_d
        rcases hb_f : inB f (b + 1) 9
        · have hq := inB_iff_false.1 hb_f
          have hv : V = false := by rw [← HV.out]; exact bo_false (by first | (simp only [Note.Valid, Note.rest]; omega) | (simp [Note.Valid, Note.rest] <;> omega))
          subst hv
          clear hq
          clear HV
          go_enter Tryd.func123, Tryd.ntmps123
          go_wp2_with (go_at_call 134; refine (note_within _ _ _ _).mono ?_; rintro e w' ⟨rfl, rfl⟩)
          all_goals first | (go_ret; exact ⟨rfl, (by repeat (first | assumption | exact Below.refl _ _ | apply bel_alloc | apply bel_drew | apply bel_drewN | (refine bel_set ?_ (by first | assumption | omega | (simp; done) | (simp; omega)) _)))⟩) | (exfalso; exact HZ.out (by repeat' (first | assumption | apply And.intro)))
        obtain ⟨hl_f, hu_f⟩ := inB_iff.1 hb_f
        by_cases hz : g = 0 ∧ h = 0 ∧ i = 0 ∧ j = 0
        · obtain ⟨rfl, rfl, rfl, rfl⟩ := hz
          have hv : V = true := by rw [← HV.out]; exact bo_true (by simp [Note.Valid, Note.rest] <;> omega)
          subst hv
          clear HV
          go_enter Tryd.func123, Tryd.ntmps123
          go_wp2_with (go_at_call 134; refine (note_within _ _ _ _).mono ?_; rintro e w' ⟨rfl, rfl⟩)
          go_ret
          exact ⟨rfl, (by repeat (first | assumption | exact Below.refl _ _ | apply bel_alloc | apply bel_drew | apply bel_drewN | (refine bel_set ?_ (by first | assumption | omega | (simp; done) | (simp; omega)) _)))⟩
        · have HZ := Lib.hid hz
          have hv : V = false := by rw [← HV.out]; exact bo_false (by first | (simp only [Note.Valid, Note.rest]; omega) | (simp [Note.Valid, Note.rest] <;> omega))
          subst hv
          clear hz
          clear HV
          go_enter Tryd.func123, Tryd.ntmps123
          go_wp2_with (go_at_call 134; refine (note_within _ _ _ _).mono ?_; rintro e w' ⟨rfl, rfl⟩)
          all_goals first | (go_ret; exact ⟨rfl, (by repeat (first | assumption | exact Below.refl _ _ | apply bel_alloc | apply bel_drew | apply bel_drewN | (refine bel_set ?_ (by first | assumption | omega | (simp; done) | (simp; omega)) _)))⟩) | (exfalso; exact HZ.out (by repeat' (first | assumption | apply And.intro)))
      · clear hb_d hl_d hu_d
        rcases hf : (f != 0)
        · obtain rfl : f = 0 := by simpa using hf
          clear hf
          by_cases hz : g = 0 ∧ h = 0 ∧ i = 0 ∧ j = 0
          · obtain ⟨rfl, rfl, rfl, rfl⟩ := hz
            have hv : V = true := by rw [← HV.out]; exact bo_true (by simp [Note.Valid, Note.rest] <;> omega)
            subst hv
            clear HV
            go_enter Tryd.func123, Tryd.ntmps123
            go_wp2_with (go_at_call 134; refine (note_within _ _ _ _).mono ?_; rintro e w' ⟨rfl, rfl⟩)
            go_ret
            exact ⟨rfl, (by repeat (first | assumption | exact Below.refl _ _ | apply bel_alloc | apply bel_drew | apply bel_drewN | (refine bel_set ?_ (by first | assumption | omega | (simp; done) | (simp; omega)) _)))⟩
          · have HZ := Lib.hid hz
            have hv : V = false := by rw [← HV.out]; exact bo_false (by first | (simp only [Note.Valid, Note.rest]; omega) | (simp [Note.Valid, Note.rest] <;> omega))
            subst hv
            clear hz
            clear HV
            go_enter Tryd.func123, Tryd.ntmps123
            go_wp2_with (go_at_call 134; refine (note_within _ _ _ _).mono ?_; rintro e w' ⟨rfl, rfl⟩)
            all_goals first | (go_ret; exact ⟨rfl, (by repeat (first | assumption | exact Below.refl _ _ | apply bel_alloc | apply bel_drew | apply bel_drewN | (refine bel_set ?_ (by first | assumption | omega | (simp; done) | (simp; omega)) _)))⟩) | (exfalso; exact HZ.out (by repeat' (first | assumption | apply And.intro)))
        · have hq : f ≠ 0 := by simpa using hf
          have hv : V = false := by rw [← HV.out]; exact bo_false (by first | (simp only [Note.Valid, Note.rest]; omega) | (simp [Note.Valid, Note.rest] <;> omega))
          subst hv
          clear HV
          go_enter Tryd.func123, Tryd.ntmps123
          go_wp2_with (go_at_call 134; refine (note_within _ _ _ _).mono ?_; rintro e w' ⟨rfl, rfl⟩)
          all_goals first | (go_ret; exact ⟨rfl, (by repeat (first | assumption | exact Below.refl _ _ | apply bel_alloc | apply bel_drew | apply bel_drewN | (refine bel_set ?_ (by first | assumption | omega | (simp; done) | (simp; omega)) _)))⟩) | (exfalso; exact HZ.out (by repeat' (first | assumption | apply And.intro)))
      · clear hb_d hl_d hu_d
        rcases hb_f : inB f 1 (b - 1)
        · have hq := inB_iff_false.1 hb_f
          have hv : V = false := by rw [← HV.out]; exact bo_false (by first | (simp only [Note.Valid, Note.rest]; omega) | (simp [Note.Valid, Note.rest] <;> omega))
          subst hv
          clear hq
          clear HV
          go_enter Tryd.func123, Tryd.ntmps123
          go_wp2_with (go_at_call 134; refine (note_within _ _ _ _).mono ?_; rintro e w' ⟨rfl, rfl⟩)
          all_goals first | (go_ret; exact ⟨rfl, (by repeat (first | assumption | exact Below.refl _ _ | apply bel_alloc | apply bel_drew | apply bel_drewN | (refine bel_set ?_ (by first | assumption | omega | (simp; done) | (simp; omega)) _)))⟩) | (exfalso; exact HZ.out (by repeat' (first | assumption | apply And.intro)))
        obtain ⟨hl_f, hu_f⟩ := inB_iff.1 hb_f
        by_cases hz : g = 0 ∧ h = 0 ∧ i = 0 ∧ j = 0
        · obtain ⟨rfl, rfl, rfl, rfl⟩ := hz
          have hv : V = true := by rw [← HV.out]; exact bo_true (by simp [Note.Valid, Note.rest] <;> omega)
          subst hv
          clear HV
          go_enter Tryd.func123, Tryd.ntmps123
          go_wp2_with (go_at_call 134; refine (note_within _ _ _ _).mono ?_; rintro e w' ⟨rfl, rfl⟩)
          go_ret
          exact ⟨rfl, (by repeat (first | assumption | exact Below.refl _ _ | apply bel_alloc | apply bel_drew | apply bel_drewN | (refine bel_set ?_ (by first | assumption | omega | (simp; done) | (simp; omega)) _)))⟩
        · have HZ := Lib.hid hz
          have hv : V = false := by rw [← HV.out]; exact bo_false (by first | (simp only [Note.Valid, Note.rest]; omega) | (simp [Note.Valid, Note.rest] <;> omega))
          subst hv
          clear hz
          clear HV
          go_enter Tryd.func123, Tryd.ntmps123
          go_wp2_with (go_at_call 134; refine (note_within _ _ _ _).mono ?_; rintro e w' ⟨rfl, rfl⟩)
          all_goals first | (go_ret; exact ⟨rfl, (by repeat (first | assumption | exact Below.refl _ _ | apply bel_alloc | apply bel_drew | apply bel_drewN | (refine bel_set ?_ (by first | assumption | omega | (simp; done) | (simp; omega)) _)))⟩) | (exfalso; exact HZ.out (by repeat' (first | assumption | apply And.intro)))
    by_cases ha1 : a = 1
    · subst ha1
      clear ha
      rcases hb_b : inB b 1 9
      · have hq := inB_iff_false.1 hb_b
        have hv : V = false := by rw [← HV.out]; exact bo_false (by first | (simp only [Note.Valid, Note.rest]; omega) | (simp [Note.Valid, Note.rest] <;> omega))
        subst hv
        clear hq
        clear HV
        go_enter Tryd.func123, Tryd.ntmps123
        go_wp2_with (go_at_call 134; refine (note_within _ _ _ _).mono ?_; rintro e w' ⟨rfl, rfl⟩)
        all_goals first | (go_ret; exact ⟨rfl, (by repeat (first | assumption | exact Below.refl _ _ | apply bel_alloc | apply bel_drew | apply bel_drewN | (refine bel_set ?_ (by first | assumption | omega | (simp; done) | (simp; omega)) _)))⟩) | (exfalso; exact HZ.out (by repeat' (first | assumption | apply And.intro)))
      obtain ⟨hl_b, hu_b⟩ := inB_iff.1 hb_b
      rcases hb_c : inB c (-1) 1
      · have hq := inB_iff_false.1 hb_c
        have hv : V = false := by rw [← HV.out]; exact bo_false (by first | (simp only [Note.Valid, Note.rest]; omega) | (simp [Note.Valid, Note.rest] <;> omega))
        subst hv
        clear hq
        clear HV
        go_enter Tryd.func123, Tryd.ntmps123
        go_wp2_with (go_at_call 134; refine (note_within _ _ _ _).mono ?_; rintro e w' ⟨rfl, rfl⟩)
        all_goals first | (go_ret; exact ⟨rfl, (by repeat (first | assumption | exact Below.refl _ _ | apply bel_alloc | apply bel_drew | apply bel_drewN | (refine bel_set ?_ (by first | assumption | omega | (simp; done) | (simp; omega)) _)))⟩) | (exfalso; exact HZ.out (by repeat' (first | assumption | apply And.intro)))
      obtain ⟨hl_c, hu_c⟩ := inB_iff.1 hb_c
      rcases hb_d : inB d (-1) 1
      · have hq := inB_iff_false.1 hb_d
        have hv : V = false := by rw [← HV.out]; exact bo_false (by first | (simp only [Note.Valid, Note.rest]; omega) | (simp [Note.Valid, Note.rest] <;> omega))
        subst hv
        clear hq
        clear HV
        go_enter Tryd.func123, Tryd.ntmps123
        go_wp2_with (go_at_call 134; refine (note_within _ _ _ _).mono ?_; rintro e w' ⟨rfl, rfl⟩)
        all_goals first | (go_ret; exact ⟨rfl, (by repeat (first | assumption | exact Below.refl _ _ | apply bel_alloc | apply bel_drew | apply bel_drewN | (refine bel_set ?_ (by first | assumption | omega | (simp; done) | (simp; omega)) _)))⟩) | (exfalso; exact HZ.out (by repeat' (first | assumption | apply And.intro)))
      obtain ⟨hl_d, hu_d⟩ := inB_iff.1 hb_d
      obtain rfl | rfl | rfl : d = -1 ∨ d = 0 ∨ d = 1 := by omega
      · clear hb_d hl_d hu_d
        rcases hb_f : inB f (b + 1) 9
        · have hq := inB_iff_false.1 hb_f
          have hv : V = false := by rw [← HV.out]; exact bo_false (by first | (simp only [Note.Valid, Note.rest]; omega) | (simp [Note.Valid, Note.rest] <;> omega))
          subst hv
          clear hq
          clear HV
          go_enter Tryd.func123, Tryd.ntmps123
          go_wp2_with (go_at_call 134; refine (note_within _ _ _ _).mono ?_; rintro e w' ⟨rfl, rfl⟩)
          all_goals first | (go_ret; exact ⟨rfl, (by repeat (first | assumption | exact Below.refl _ _ | apply bel_alloc | apply bel_drew | apply bel_drewN | (refine bel_set ?_ (by first | assumption | omega | (simp; done) | (simp; omega)) _)))⟩) | (exfalso; exact HZ.out (by repeat' (first | assumption | apply And.intro)))
        obtain ⟨hl_f, hu_f⟩ := inB_iff.1 hb_f
        by_cases hz : g = 0 ∧ h = 0 ∧ i = 0 ∧ j = 0
        · obtain ⟨rfl, rfl, rfl, rfl⟩ := hz
          have hv : V = true := by rw [← HV.out]; exact bo_true (by simp [Note.Valid, Note.rest] <;> omega)
          subst hv
          clear HV
          go_enter Tryd.func123, Tryd.ntmps123
          go_wp2_with (go_at_call 134; refine (note_within _ _ _ _).mono ?_; rintro e w' ⟨rfl, rfl⟩)
          go_ret
          exact ⟨rfl, (by repeat (first | assumption | exact Below.refl _ _ | apply bel_alloc | apply bel_drew | apply bel_drewN | (refine bel_set ?_ (by first | assumption | omega | (simp; done) | (simp; omega)) _)))⟩
        · have HZ := Lib.hid hz
          have hv : V = false := by rw [← HV.out]; exact bo_false (by first | (simp only [Note.Valid, Note.rest]; omega) | (simp [Note.Valid, Note.rest] <;> omega))
          subst hv
          clear hz
          clear HV
          go_enter Tryd.func123, Tryd.ntmps123
          go_wp2_with (go_at_call 134; refine (note_within _ _ _ _).mono ?_; rintro e w' ⟨rfl, rfl⟩)
          all_goals first | (go_ret; exact ⟨rfl, (by repeat (first | assumption | exact Below.refl _ _ | apply bel_alloc | apply bel_drew | apply bel_drewN | (refine bel_set ?_ (by first | assumption | omega | (simp; done) | (simp; omega)) _)))⟩) | (exfalso; exact HZ.out (by repeat' (first | assumption | apply And.intro)))
      · clear hb_d hl_d hu_d
        rcases hf : (f != 0)
        · obtain rfl : f = 0 := by simpa using hf
          clear hf
          by_cases hz : g = 0 ∧ h = 0 ∧ i = 0 ∧ j = 0
          · obtain ⟨rfl, rfl, rfl, rfl⟩ := hz
            have hv : V = true := by rw [← HV.out]; exact bo_true (by simp [Note.Valid, Note.rest] <;> omega)
            subst hv
            clear HV
            go_enter Tryd.func123, Tryd.ntmps123
            go_wp2_with (go_at_call 134; refine (note_within _ _ _ _).mono ?_; rintro e w' ⟨rfl, rfl⟩)
            go_ret
            exact ⟨rfl, (by repeat (first | assumption | exact Below.refl _ _ | apply bel_alloc | apply bel_drew | apply bel_drewN | (refine bel_set ?_ (by first | assumption | omega | (simp; done) | (simp; omega)) _)))⟩
          · have HZ := Lib.hid hz
            have hv : V = false := by rw [← HV.out]; exact bo_false (by first | (simp only [Note.Valid, Note.rest]; omega) | (simp [Note.Valid, Note.rest] <;> omega))
            subst hv
            clear hz
            clear HV
            go_enter Tryd.func123, Tryd.ntmps123
            go_wp2_with (go_at_call 134; refine (note_within _ _ _ _).mono ?_; rintro e w' ⟨rfl, rfl⟩)
            all_goals first | (go_ret; exact ⟨rfl, (by repeat (first | assumption | exact Below.refl _ _ | apply bel_alloc | apply bel_drew | apply bel_drewN | (refine bel_set ?_ (by first | assumption | omega | (simp; done) | (simp; omega)) _)))⟩) | (exfalso; exact HZ.out (by repeat' (first | assumption | apply And.intro)))
        · have hq : f ≠ 0 := by simpa using hf
          have hv : V = false := by rw [← HV.out]; exact bo_false (by first | (simp only [Note.Valid, Note.rest]; omega) | (simp [Note.Valid, Note.rest] <;> omega))
          subst hv
          clear HV
          go_enter Tryd.func123, Tryd.ntmps123
          go_wp2_with (go_at_call 134; refine (note_within _ _ _ _).mono ?_; rintro e w' ⟨rfl, rfl⟩)
          all_goals first | (go_ret; exact ⟨rfl, (by repeat (first | assumption | exact Below.refl _ _ | apply bel_alloc | apply bel_drew | apply bel_drewN | (refine bel_set ?_ (by first | assumption | omega | (simp; done) | (simp; omega)) _)))⟩) | (exfalso; exact HZ.out (by repeat' (first | assumption | apply And.intro)))
      · clear hb_d hl_d hu_d
        rcases hb_f : inB f 1 (b - 1)
        · have hq := inB_iff_false.1 hb_f
          have hv : V = false := by rw [← HV.out]; exact bo_false (by first | (simp only [Note.Valid, Note.rest]; omega) | (simp [Note.Valid, Note.rest] <;> omega))
          subst hv
          clear hq
          clear HV
          go_enter Tryd.func123, Tryd.ntmps123
          go_wp2_with (go_at_call 134; refine (note_within _ _ _ _).mono ?_; rintro e w' ⟨rfl, rfl⟩)
          all_goals first | (go_ret; exact ⟨rfl, (by repeat (first | assumption | exact Below.refl _ _ | apply bel_alloc | apply bel_drew | apply bel_drewN | (refine bel_set ?_ (by first | assumption | omega | (simp; done) | (simp; omega)) _)))⟩) | (exfalso; exact HZ.out (by repeat' (first | assumption | apply And.intro)))
        obtain ⟨hl_f, hu_f⟩ := inB_iff.1 hb_f
        by_cases hz : g = 0 ∧ h = 0 ∧ i = 0 ∧ j = 0
        · obtain ⟨rfl, rfl, rfl, rfl⟩ := hz
          have hv : V = true := by rw [← HV.out]; exact bo_true (by simp [Note.Valid, Note.rest] <;> omega)
          subst hv
          clear HV
          go_enter Tryd.func123, Tryd.ntmps123
          go_wp2_with (go_at_call 134; refine (note_within _ _ _ _).mono ?_; rintro e w' ⟨rfl, rfl⟩)
          go_ret
          exact ⟨rfl, (by repeat (first | assumption | exact Below.refl _ _ | apply bel_alloc | apply bel_drew | apply bel_drewN | (refine bel_set ?_ (by first | assumption | omega | (simp; done) | (simp; omega)) _)))⟩
        · have HZ := Lib.hid hz
          have hv : V = false := by rw [← HV.out]; exact bo_false (by first | (simp only [Note.Valid, Note.rest]; omega) | (simp [Note.Valid, Note.rest] <;> omega))
          subst hv
          clear hz
          clear HV
          go_enter Tryd.func123, Tryd.ntmps123
          go_wp2_with (go_at_call 134; refine (note_within _ _ _ _).mono ?_; rintro e w' ⟨rfl, rfl⟩)
          all_goals first | (go_ret; exact ⟨rfl, (by repeat (first | assumption | exact Below.refl _ _ | apply bel_alloc | apply bel_drew | apply bel_drewN | (refine bel_set ?_ (by first | assumption | omega | (simp; done) | (simp; omega)) _)))⟩) | (exfalso; exact HZ.out (by repeat' (first | assumption | apply And.intro)))
    have ha2 : (a == -1) = false := by simpa using ha
    have ha3 : (a == 1) = false := by simpa using ha1
    have ha4 : (a != -1) = true := by simpa using ha
    have ha5 : (a != 1) = true := by simpa using ha1
    have hv : V = false := by rw [← HV.out]; exact bo_false (by first | (simp only [Note.Valid, Note.rest]; omega) | (simp [Note.Valid, Note.rest] <;> omega))
    subst hv
    clear ha ha1
    clear HV
    go_enter Tryd.func123, Tryd.ntmps123
    go_wp2_with (go_at_call 134; refine (note_within _ _ _ _).mono ?_; rintro e w' ⟨rfl, rfl⟩)
    all_goals first | (go_ret; exact ⟨rfl, (by repeat (first | assumption | exact Below.refl _ _ | apply bel_alloc | apply bel_drew | apply bel_drewN | (refine bel_set ?_ (by first | assumption | omega | (simp; done) | (simp; omega)) _)))⟩) | (exfalso; exact HZ.out (by repeat' (first | assumption | apply And.intro)))
  by_cases hk2 : k = 2
  · subst hk2
    clear hk
    rcases hb_g : inB g 1 9999
    · have hq := inB_iff_false.1 hb_g
      have hv : V = false := by rw [← HV.out]; exact bo_false (by first | (simp only [Note.Valid, Note.rest]; omega) | (simp [Note.Valid, Note.rest] <;> omega))
      subst hv
      clear hq
      clear HV
      go_enter Tryd.func123, Tryd.ntmps123
      go_wp2_with (go_at_call 134; refine (note_within _ _ _ _).mono ?_; rintro e w' ⟨rfl, rfl⟩)
      all_goals first | (go_ret; exact ⟨rfl, (by repeat (first | assumption | exact Below.refl _ _ | apply bel_alloc | apply bel_drew | apply bel_drewN | (refine bel_set ?_ (by first | assumption | omega | (simp; done) | (simp; omega)) _)))⟩) | (exfalso; exact HZ.out (by repeat' (first | assumption | apply And.intro)))
    obtain ⟨hl_g, hu_g⟩ := inB_iff.1 hb_g
    by_cases hz : a = 0 ∧ b = 0 ∧ c = 0 ∧ d = 0 ∧ f = 0 ∧ h = 0 ∧ i = 0 ∧ j = 0
    · obtain ⟨rfl, rfl, rfl, rfl, rfl, rfl, rfl, rfl⟩ := hz
      have hv : V = true := by rw [← HV.out]; exact bo_true (by simp [Note.Valid, Note.rest] <;> omega)
      subst hv
      clear HV
      go_enter Tryd.func123, Tryd.ntmps123
      go_wp2_with (go_at_call 134; refine (note_within _ _ _ _).mono ?_; rintro e w' ⟨rfl, rfl⟩)
      go_ret
      exact ⟨rfl, (by repeat (first | assumption | exact Below.refl _ _ | apply bel_alloc | apply bel_drew | apply bel_drewN | (refine bel_set ?_ (by first | assumption | omega | (simp; done) | (simp; omega)) _)))⟩
    · have HZ := Lib.hid hz
      have hv : V = false := by rw [← HV.out]; exact bo_false (by first | (simp only [Note.Valid, Note.rest]; omega) | (simp [Note.Valid, Note.rest] <;> omega))
      subst hv
      clear hz
      clear HV
      go_enter Tryd.func123, Tryd.ntmps123
      go_wp2_with (go_at_call 134; refine (note_within _ _ _ _).mono ?_; rintro e w' ⟨rfl, rfl⟩)
      all_goals first | (go_ret; exact ⟨rfl, (by repeat (first | assumption | exact Below.refl _ _ | apply bel_alloc | apply bel_drew | apply bel_drewN | (refine bel_set ?_ (by first | assumption | omega | (simp; done) | (simp; omega)) _)))⟩) | (exfalso; exact HZ.out (by repeat' (first | assumption | apply And.intro)))
  by_cases hk3 : k = 3
  · subst hk3
    clear hk hk2
    by_cases hz : a = 0 ∧ b = 0 ∧ c = 0 ∧ d = 0 ∧ f = 0 ∧ g = 0 ∧ h = 0 ∧ i = 0 ∧ j = 0
    · obtain ⟨rfl, rfl, rfl, rfl, rfl, rfl, rfl, rfl, rfl⟩ := hz
      have hv : V = true := by rw [← HV.out]; exact bo_true (by simp [Note.Valid, Note.rest] <;> omega)
      subst hv
      clear HV
      go_enter Tryd.func123, Tryd.ntmps123
      go_wp2_with (go_at_call 134; refine (note_within _ _ _ _).mono ?_; rintro e w' ⟨rfl, rfl⟩)
      go_ret
      exact ⟨rfl, (by repeat (first | assumption | exact Below.refl _ _ | apply bel_alloc | apply bel_drew | apply bel_drewN | (refine bel_set ?_ (by first | assumption | omega | (simp; done) | (simp; omega)) _)))⟩
    · have HZ := Lib.hid hz
      have hv : V = false := by rw [← HV.out]; exact bo_false (by first | (simp only [Note.Valid, Note.rest]; omega) | (simp [Note.Valid, Note.rest] <;> omega))
      subst hv
      clear hz
      clear HV
      go_enter Tryd.func123, Tryd.ntmps123
      go_wp2_with (go_at_call 134; refine (note_within _ _ _ _).mono ?_; rintro e w' ⟨rfl, rfl⟩)
      all_goals first | (go_ret; exact ⟨rfl, (by repeat (first | assumption | exact Below.refl _ _ | apply bel_alloc | apply bel_drew | apply bel_drewN | (refine bel_set ?_ (by first | assumption | omega | (simp; done) | (simp; omega)) _)))⟩) | (exfalso; exact HZ.out (by repeat' (first | assumption | apply And.intro)))
  by_cases hk4 : k = 4
  · subst hk4
    clear hk hk2 hk3
    by_cases hz : a = 0 ∧ b = 0 ∧ c = 0 ∧ d = 0 ∧ f = 0 ∧ g = 0 ∧ h = 0 ∧ i = 0 ∧ j = 0
    · obtain ⟨rfl, rfl, rfl, rfl, rfl, rfl, rfl, rfl, rfl⟩ := hz
      have hv : V = true := by rw [← HV.out]; exact bo_true (by simp [Note.Valid, Note.rest] <;> omega)
      subst hv
      clear HV
      go_enter Tryd.func123, Tryd.ntmps123
      go_wp2_with (go_at_call 134; refine (note_within _ _ _ _).mono ?_; rintro e w' ⟨rfl, rfl⟩)
      go_ret
      exact ⟨rfl, (by repeat (first | assumption | exact Below.refl _ _ | apply bel_alloc | apply bel_drew | apply bel_drewN | (refine bel_set ?_ (by first | assumption | omega | (simp; done) | (simp; omega)) _)))⟩
    · have HZ := Lib.hid hz
      have hv : V = false := by rw [← HV.out]; exact bo_false (by first | (simp only [Note.Valid, Note.rest]; omega) | (simp [Note.Valid, Note.rest] <;> omega))
      subst hv
      clear hz
      clear HV
      go_enter Tryd.func123, Tryd.ntmps123
      go_wp2_with (go_at_call 134; refine (note_within _ _ _ _).mono ?_; rintro e w' ⟨rfl, rfl⟩)
      all_goals first | (go_ret; exact ⟨rfl, (by repeat (first | assumption | exact Below.refl _ _ | apply bel_alloc | apply bel_drew | apply bel_drewN | (refine bel_set ?_ (by first | assumption | omega | (simp; done) | (simp; omega)) _)))⟩) | (exfalso; exact HZ.out (by repeat' (first | assumption | apply And.intro)))
  by_cases hk5 : k = 5
  · subst hk5
    clear hk hk2 hk3 hk4
    rcases hb_h : inB h 1 3
    · have hq := inB_iff_false.1 hb_h
      have hv : V = false := by rw [← HV.out]; exact bo_false (by first | (simp only [Note.Valid, Note.rest]; omega) | (simp [Note.Valid, Note.rest] <;> omega))
      subst hv
      clear hq
      clear HV
      go_enter Tryd.func123, Tryd.ntmps123
      go_wp2_with (go_at_call 134; refine (note_within _ _ _ _).mono ?_; rintro e w' ⟨rfl, rfl⟩)
      all_goals first | (go_ret; exact ⟨rfl, (by repeat (first | assumption | exact Below.refl _ _ | apply bel_alloc | apply bel_drew | apply bel_drewN | (refine bel_set ?_ (by first | assumption | omega | (simp; done) | (simp; omega)) _)))⟩) | (exfalso; exact HZ.out (by repeat' (first | assumption | apply And.intro)))
    obtain ⟨hl_h, hu_h⟩ := inB_iff.1 hb_h
    by_cases hz : a = 0 ∧ b = 0 ∧ c = 0 ∧ d = 0 ∧ f = 0 ∧ g = 0 ∧ i = 0 ∧ j = 0
    · obtain ⟨rfl, rfl, rfl, rfl, rfl, rfl, rfl, rfl⟩ := hz
      have hv : V = true := by rw [← HV.out]; exact bo_true (by simp [Note.Valid, Note.rest] <;> omega)
      subst hv
      clear HV
      go_enter Tryd.func123, Tryd.ntmps123
      go_wp2_with (go_at_call 134; refine (note_within _ _ _ _).mono ?_; rintro e w' ⟨rfl, rfl⟩)
      go_ret
      exact ⟨rfl, (by repeat (first | assumption | exact Below.refl _ _ | apply bel_alloc | apply bel_drew | apply bel_drewN | (refine bel_set ?_ (by first | assumption | omega | (simp; done) | (simp; omega)) _)))⟩
    · have HZ := Lib.hid hz
      have hv : V = false := by rw [← HV.out]; exact bo_false (by first | (simp only [Note.Valid, Note.rest]; omega) | (simp [Note.Valid, Note.rest] <;> omega))
      subst hv
      clear hz
      clear HV
      go_enter Tryd.func123, Tryd.ntmps123
      go_wp2_with (go_at_call 134; refine (note_within _ _ _ _).mono ?_; rintro e w' ⟨rfl, rfl⟩)
      all_goals first | (go_ret; exact ⟨rfl, (by repeat (first | assumption | exact Below.refl _ _ | apply bel_alloc | apply bel_drew | apply bel_drewN | (refine bel_set ?_ (by first | assumption | omega | (simp; done) | (simp; omega)) _)))⟩) | (exfalso; exact HZ.out (by repeat' (first | assumption | apply And.intro)))
  by_cases hk6 : k = 6
  · subst hk6
    clear hk hk2 hk3 hk4 hk5
    rcases hb_h : inB h 1 3
    · have hq := inB_iff_false.1 hb_h
      have hv : V = false := by rw [← HV.out]; exact bo_false (by first | (simp only [Note.Valid, Note.rest]; omega) | (simp [Note.Valid, Note.rest] <;> omega))
      subst hv
      clear hq
      clear HV
      go_enter Tryd.func123, Tryd.ntmps123
      go_wp2_with (go_at_call 134; refine (note_within _ _ _ _).mono ?_; rintro e w' ⟨rfl, rfl⟩)
      all_goals first | (go_ret; exact ⟨rfl, (by repeat (first | assumption | exact Below.refl _ _ | apply bel_alloc | apply bel_drew | apply bel_drewN | (refine bel_set ?_ (by first | assumption | omega | (simp; done) | (simp; omega)) _)))⟩) | (exfalso; exact HZ.out (by repeat' (first | assumption | apply And.intro)))
    obtain ⟨hl_h, hu_h⟩ := inB_iff.1 hb_h
    by_cases hz : a = 0 ∧ b = 0 ∧ c = 0 ∧ d = 0 ∧ f = 0 ∧ g = 0 ∧ i = 0 ∧ j = 0
    · obtain ⟨rfl, rfl, rfl, rfl, rfl, rfl, rfl, rfl⟩ := hz
      have hv : V = true := by rw [← HV.out]; exact bo_true (by simp [Note.Valid, Note.rest] <;> omega)
      subst hv
      clear HV
      go_enter Tryd.func123, Tryd.ntmps123
      go_wp2_with (go_at_call 134; refine (note_within _ _ _ _).mono ?_; rintro e w' ⟨rfl, rfl⟩)
      go_ret
      exact ⟨rfl, (by repeat (first | assumption | exact Below.refl _ _ | apply bel_alloc | apply bel_drew | apply bel_drewN | (refine bel_set ?_ (by first | assumption | omega | (simp; done) | (simp; omega)) _)))⟩
    · have HZ := Lib.hid hz
      have hv : V = false := by rw [← HV.out]; exact bo_false (by first | (simp only [Note.Valid, Note.rest]; omega) | (simp [Note.Valid, Note.rest] <;> omega))
      subst hv
      clear hz
      clear HV
      go_enter Tryd.func123, Tryd.ntmps123
      go_wp2_with (go_at_call 134; refine (note_within _ _ _ _).mono ?_; rintro e w' ⟨rfl, rfl⟩)
      all_goals first | (go_ret; exact ⟨rfl, (by repeat (first | assumption | exact Below.refl _ _ | apply bel_alloc | apply bel_drew | apply bel_drewN | (refine bel_set ?_ (by first | assumption | omega | (simp; done) | (simp; omega)) _)))⟩) | (exfalso; exact HZ.out (by repeat' (first | assumption | apply And.intro)))
  by_cases hk7 : k = 7
  · subst hk7
    clear hk hk2 hk3 hk4 hk5 hk6
    rcases hb_j : inB j 2 6
    · have hq := inB_iff_false.1 hb_j
      have hv : V = false := by rw [← HV.out]; exact bo_false (by first | (simp only [Note.Valid, Note.rest]; omega) | (simp [Note.Valid, Note.rest] <;> omega))
      subst hv
      clear hq
      clear HV
      go_enter Tryd.func123, Tryd.ntmps123
      go_wp2_with (go_at_call 134; refine (note_within _ _ _ _).mono ?_; rintro e w' ⟨rfl, rfl⟩)
      all_goals first | (go_ret; exact ⟨rfl, (by repeat (first | assumption | exact Below.refl _ _ | apply bel_alloc | apply bel_drew | apply bel_drewN | (refine bel_set ?_ (by first | assumption | omega | (simp; done) | (simp; omega)) _)))⟩) | (exfalso; exact HZ.out (by repeat' (first | assumption | apply And.intro)))
    obtain ⟨hl_j, hu_j⟩ := inB_iff.1 hb_j
    rcases hb_i : inB i 1 j
    · have hq := inB_iff_false.1 hb_i
      have hv : V = false := by rw [← HV.out]; exact bo_false (by first | (simp only [Note.Valid, Note.rest]; omega) | (simp [Note.Valid, Note.rest] <;> omega))
      subst hv
      clear hq
      clear HV
      go_enter Tryd.func123, Tryd.ntmps123
      go_wp2_with (go_at_call 134; refine (note_within _ _ _ _).mono ?_; rintro e w' ⟨rfl, rfl⟩)
      all_goals first | (go_ret; exact ⟨rfl, (by repeat (first | assumption | exact Below.refl _ _ | apply bel_alloc | apply bel_drew | apply bel_drewN | (refine bel_set ?_ (by first | assumption | omega | (simp; done) | (simp; omega)) _)))⟩) | (exfalso; exact HZ.out (by repeat' (first | assumption | apply And.intro)))
    obtain ⟨hl_i, hu_i⟩ := inB_iff.1 hb_i
    by_cases hz : a = 0 ∧ b = 0 ∧ c = 0 ∧ d = 0 ∧ f = 0 ∧ g = 0 ∧ h = 0
    · obtain ⟨rfl, rfl, rfl, rfl, rfl, rfl, rfl⟩ := hz
      have hv : V = true := by rw [← HV.out]; exact bo_true (by simp [Note.Valid, Note.rest] <;> omega)
      subst hv
      clear HV
      go_enter Tryd.func123, Tryd.ntmps123
      go_wp2_with (go_at_call 134; refine (note_within _ _ _ _).mono ?_; rintro e w' ⟨rfl, rfl⟩)
      go_ret
      exact ⟨rfl, (by repeat (first | assumption | exact Below.refl _ _ | apply bel_alloc | apply bel_drew | apply bel_drewN | (refine bel_set ?_ (by first | assumption | omega | (simp; done) | (simp; omega)) _)))⟩
    · have HZ := Lib.hid hz
      have hv : V = false := by rw [← HV.out]; exact bo_false (by first | (simp only [Note.Valid, Note.rest]; omega) | (simp [Note.Valid, Note.rest] <;> omega))
      subst hv
      clear hz
      clear HV
      go_enter Tryd.func123, Tryd.ntmps123
      go_wp2_with (go_at_call 134; refine (note_within _ _ _ _).mono ?_; rintro e w' ⟨rfl, rfl⟩)
      all_goals first | (go_ret; exact ⟨rfl, (by repeat (first | assumption | exact Below.refl _ _ | apply bel_alloc | apply bel_drew | apply bel_drewN | (refine bel_set ?_ (by first | assumption | omega | (simp; done) | (simp; omega)) _)))⟩) | (exfalso; exact HZ.out (by repeat' (first | assumption | apply And.intro)))
  have hm1 : (k == 1) = false := by simpa using hk
  have hm2 : (k == 2) = false := by simpa using hk2
  have hm3 : (k == 3) = false := by simpa using hk3
  have hm4 : (k == 4) = false := by simpa using hk4
  have hm5 : (k == 5) = false := by simpa using hk5
  have hm6 : (k == 6) = false := by simpa using hk6
  have hm7 : (k == 7) = false := by simpa using hk7
  have hv : V = false := by rw [← HV.out]; exact bo_false (by first | (simp only [Note.Valid, Note.rest]; omega) | (simp [Note.Valid, Note.rest] <;> omega))
  subst hv
  clear hk hk2 hk3 hk4 hk5 hk6 hk7
  clear HV
  go_enter Tryd.func123, Tryd.ntmps123
  go_wp2_with (go_at_call 134; refine (note_within _ _ _ _).mono ?_; rintro e w' ⟨rfl, rfl⟩)
  all_goals first | (go_ret; exact ⟨rfl, (by repeat (first | assumption | exact Below.refl _ _ | apply bel_alloc | apply bel_drew | apply bel_drewN | (refine bel_set ?_ (by first | assumption | omega | (simp; done) | (simp; omega)) _)))⟩) | (exfalso; exact HZ.out (by repeat' (first | assumption | apply And.intro)))
end Go.Proofs.YtinglbcafcjhfaaDoor
