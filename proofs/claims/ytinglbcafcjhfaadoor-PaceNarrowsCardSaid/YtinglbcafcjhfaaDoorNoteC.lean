/- The text of a note: the contract of note.text. -/
import Derived.Test.YtinglbcafcjhfaaDoorNoteA
import Derived.Test.YtinglbcafcjhfaaDoorShelf
import Derived.RegionTactic
import Derived.WalkMore
namespace Go.Proofs.YtinglbcafcjhfaaDoor
open Go.RowKit
set_option linter.unusedVariables false
set_option linter.unusedSimpArgs false

/-- The table of powers of ten of strconv. -/
def Tab (w : World) : Prop := Lib.TabIs Tryd.prog w "internal/strconv.uint64pow10" .u64 Lib.pow10Tab
theorem Tab.below {w w1 : World} (h : Tab w) (hb : Below w.heap.size w w1) : Tab w1 := by
  unfold Tab Lib.TabIs World.var? at *
  generalize Tryd.prog.globalNamed "internal/strconv.uint64pow10" = G at *
  cases G with
  | none => cases h
  | some g =>
    simp only [Option.bind_some] at h ⊢
    cases ho : w.heap[g]? with
    | none => rw [ho] at h; cases h
    | some o => rw [bel_blk hb ho]; rw [ho] at h; exact h
/-- The digit of a number from 0 to 9. -/
def dc (x : Int) : UInt8 := (Lib.decDigits x.toNat).getD 0 0
def dg (x : Int) : List UInt8 := [dc x]
def textOf (n : Note) : List UInt8 :=
  if n.kind = 1 then (if n.turn < 0 then [76] else [82]) ++ dg n.grade ++ (if n.long < 0 then [32, 115, 104, 111, 114, 116] else if 0 < n.long then [32, 108, 111, 110, 103] else []) ++ (if n.change < 0 then [32, 111, 112, 101, 110, 115, 32] ++ dg n.to_ else if 0 < n.change then [32, 116, 105, 103, 104, 116, 101, 110, 115, 32] ++ dg n.to_ else [])
  else if n.kind = 2 then Lib.itoa n.meters
  else if n.kind = 3 then [105, 110, 116, 111]
  else if n.kind = 4 then [97, 110, 100]
  else if n.kind = 5 then (if n.size = 1 then [99, 114, 101, 115, 116] else if n.size = 2 then [106, 117, 109, 112] else [98, 105, 103, 106, 117, 109, 112])
  else if n.kind = 6 then List.replicate n.size.toNat 33
  else [106, 117, 110, 99, 116, 105, 111, 110, 32] ++ dg n.way ++ [32, 111, 102, 32] ++ dg n.arms
theorem itoa_dg (x : Int) (w : World) (h0 : 0 ≤ x) (h1 : x < 10) : Calls Tryd.prog 70 #[.int .i64 x] w fun e w' => e = .returned (.string ⟨#[dc x]⟩) ∧ w = w' := by
  obtain ⟨i, rfl⟩ := Int.eq_ofNat_of_zero_le h0
  have hd : Lib.decDigits i = [dc i] := by
    have : i = 0 ∨ i = 1 ∨ i = 2 ∨ i = 3 ∨ i = 4 ∨ i = 5 ∨ i = 6 ∨ i = 7 ∨ i = 8 ∨ i = 9 := by omega
    rcases this with rfl | rfl | rfl | rfl | rfl | rfl | rfl | rfl | rfl | rfl <;> decide +kernel
  exact (Tryd.strconv_Itoa_small i (by omega) w).mono fun e w' ⟨he, hw⟩ => ⟨by rw [he, hd], hw.symm⟩
theorem arrL0 : ∀ w, Sem.run Tryd.prog (Instr.index 182 (.agg #[.string ⟨#[32, 115, 104, 111, 114, 116]⟩, .string ⟨#[]⟩, .string ⟨#[32, 108, 111, 110, 103]⟩]) (.int .i64 0)) w = .ok (.string ⟨#[32, 115, 104, 111, 114, 116]⟩) w := fun _ => by kernel_rfl
theorem arrL1 : ∀ w, Sem.run Tryd.prog (Instr.index 182 (.agg #[.string ⟨#[32, 115, 104, 111, 114, 116]⟩, .string ⟨#[]⟩, .string ⟨#[32, 108, 111, 110, 103]⟩]) (.int .i64 1)) w = .ok (.string ⟨#[]⟩) w := fun _ => by kernel_rfl
theorem arrL2 : ∀ w, Sem.run Tryd.prog (Instr.index 182 (.agg #[.string ⟨#[32, 115, 104, 111, 114, 116]⟩, .string ⟨#[]⟩, .string ⟨#[32, 108, 111, 110, 103]⟩]) (.int .i64 2)) w = .ok (.string ⟨#[32, 108, 111, 110, 103]⟩) w := fun _ => by kernel_rfl
theorem arrC0 : ∀ w, Sem.run Tryd.prog (Instr.index 182 (.agg #[.string ⟨#[32, 111, 112, 101, 110, 115, 32]⟩, .string ⟨#[]⟩, .string ⟨#[32, 116, 105, 103, 104, 116, 101, 110, 115, 32]⟩]) (.int .i64 0)) w = .ok (.string ⟨#[32, 111, 112, 101, 110, 115, 32]⟩) w := fun _ => by kernel_rfl
theorem arrC2 : ∀ w, Sem.run Tryd.prog (Instr.index 182 (.agg #[.string ⟨#[32, 111, 112, 101, 110, 115, 32]⟩, .string ⟨#[]⟩, .string ⟨#[32, 116, 105, 103, 104, 116, 101, 110, 115, 32]⟩]) (.int .i64 2)) w = .ok (.string ⟨#[32, 116, 105, 103, 104, 116, 101, 110, 115, 32]⟩) w := fun _ => by kernel_rfl
theorem note_crests (w : World) : Calls Tryd.prog 124 #[] w fun e w' => e = .returned (.slice (some ⟨w.heap.size, 0, none⟩) 3 3) ∧ w' = w.alloc (.cells #[.string ⟨#[99, 114, 101, 115, 116]⟩, .string ⟨#[106, 117, 109, 112]⟩, .string ⟨#[98, 105, 103, 106, 117, 109, 112]⟩] 9) := by
  go_enter Tryd.func124, Tryd.ntmps124
  go_wp2
  go_ret
  exact ⟨rfl, rfl⟩
theorem bel_grow (w : World) (k : Nat) (os : Array Obj) : Below w.heap.size w (Sort.grow (w.drewN k) os) :=
  ⟨rfl, rfl, rfl, by show w.heap.size ≤ (w.heap ++ os).size; rw [Array.size_append]; omega, fun j hj => by show (w.heap ++ os)[j]? = w.heap[j]?; rw [Array.getElem?_append_left hj]⟩
theorem ret_str {a b : ByteArray} (h : a = b) : Ending.returned (.string a) = .returned (.string b) := by rw [h]
set_option maxRecDepth 100000 in
set_option maxHeartbeats 4000000 in
theorem note_text (n : Note) (w : World) (hv : n.Valid) (ht : Tab w) : Calls Tryd.prog 117 #[.agg n.cells] w fun e w' => e = .returned (.string ⟨(textOf n).toArray⟩) ∧ Below w.heap.size w w' := by
  obtain ⟨k, a, b, c, d, f, g, h, i, j⟩ := n
  have HT := Lib.hid ht
  clear ht
  dsimp only [Note.cells]
  obtain ⟨V, hV⟩ : ∃ V, textOf ⟨k, a, b, c, d, f, g, h, i, j⟩ = V := ⟨_, rfl⟩
  rw [hV]
  have HV := Lib.hid hV
  clear hV
  rcases hv with ⟨h1, ha, hb, hb', hc, hc', hd, hd', hf0, hfm, hf1, hg, hh, hi, hj⟩ | ⟨h1, hm, hm', hr, hh, hi, hj⟩ | ⟨h1, hr, hg, hh, hi, hj⟩ | ⟨h1, hs, hs', hr, hg, hi, hj⟩ | ⟨h1, hs, hs', hw, hw', hr, hg, hh⟩
  · dsimp only at *
    subst h1
    have i0 := arrL0
    have i1 := arrL1
    have i2 := arrL2
    have i3 := arrC0
    have i5 := arrC2
    obtain rfl | rfl | rfl : c = -1 ∨ c = 0 ∨ c = 1 := by omega
    all_goals
      rcases ha with rfl | rfl
      all_goals
        obtain rfl | rfl | rfl : d = -1 ∨ d = 0 ∨ d = 1 := by omega
        · obtain ⟨q1, q2⟩ : 1 ≤ f ∧ f ≤ 9 := by have := hfm rfl; omega
          clear hf0 hfm hf1 hg hh hi hj hc hc' hd hd'
          go_enter Tryd.func117, Tryd.ntmps117
          go_wp2_with (go_at_call 70; (with_reducible refine (itoa_dg _ _ (by omega) (by omega)).mono ?_); rintro e w' ⟨rfl, rfl⟩)
          go_quiet ((go_at_call 70; exact quiet_eq (itoa_dg _ _ (by omega) (by omega))))
          go_wp2
          go_ret
          exact ⟨ret_str (by rw [← HV.out]; exact ByteArray.ext (by simp [textOf, dg])), (by repeat (first | assumption | exact Below.refl _ _ | apply bel_alloc | apply bel_drew | apply bel_drewN | (refine bel_set ?_ (by first | assumption | omega | (simp; done) | (simp; omega)) _)))⟩
        · clear hf0 hfm hf1 hg hh hi hj hc hc' hd hd'
          go_enter Tryd.func117, Tryd.ntmps117
          go_wp2_with (go_at_call 70; (with_reducible refine (itoa_dg _ _ (by omega) (by omega)).mono ?_); rintro e w' ⟨rfl, rfl⟩)
          go_ret
          exact ⟨ret_str (by rw [← HV.out]; exact ByteArray.ext (by simp [textOf, dg])), (by repeat (first | assumption | exact Below.refl _ _ | apply bel_alloc | apply bel_drew | apply bel_drewN | (refine bel_set ?_ (by first | assumption | omega | (simp; done) | (simp; omega)) _)))⟩
        · obtain ⟨q1, q2⟩ : 1 ≤ f ∧ f ≤ 9 := by have := hf1 rfl; omega
          clear hf0 hfm hf1 hg hh hi hj hc hc' hd hd'
          go_enter Tryd.func117, Tryd.ntmps117
          go_wp2_with (go_at_call 70; (with_reducible refine (itoa_dg _ _ (by omega) (by omega)).mono ?_); rintro e w' ⟨rfl, rfl⟩)
          go_quiet ((go_at_call 70; exact quiet_eq (itoa_dg _ _ (by omega) (by omega))))
          go_wp2
          go_ret
          exact ⟨ret_str (by rw [← HV.out]; exact ByteArray.ext (by simp [textOf, dg])), (by repeat (first | assumption | exact Below.refl _ _ | apply bel_alloc | apply bel_drew | apply bel_drewN | (refine bel_set ?_ (by first | assumption | omega | (simp; done) | (simp; omega)) _)))⟩
  · dsimp only at *
    subst h1
    clear hr hh hi hj
    go_enter Tryd.func117, Tryd.ntmps117
    go_wp2_with (go_at_call 70; go_must ((refine (Tryd.strconv_Itoa g (by omega) (by omega) _ (HT.out.below (by repeat (first | assumption | exact Below.refl _ _ | apply bel_alloc | apply bel_drew | apply bel_drewN | (refine bel_set ?_ (by first | assumption | omega | (simp; done) | (simp; omega)) _))))).mono ?_; rintro e w' ⟨rfl, m, os, rfl⟩)))
    go_ret
    exact ⟨ret_str (by rw [← HV.out]; exact ByteArray.ext (by simp [textOf])), bel_then (by repeat (first | assumption | exact Below.refl _ _ | apply bel_alloc | apply bel_drew | apply bel_drewN | (refine bel_set ?_ (by first | assumption | omega | (simp; done) | (simp; omega)) _))) (bel_grow _ _ _)⟩
  · dsimp only at *
    clear hr hg hh hi hj
    rcases h1 with rfl | rfl
    all_goals
      go_enter Tryd.func117, Tryd.ntmps117
      go_wp2
      go_ret
      exact ⟨ret_str (by rw [← HV.out]; exact ByteArray.ext (by simp [textOf, dg])), (by repeat (first | assumption | exact Below.refl _ _ | apply bel_alloc | apply bel_drew | apply bel_drewN | (refine bel_set ?_ (by first | assumption | omega | (simp; done) | (simp; omega)) _)))⟩
  · dsimp only at *
    clear hr hg hi hj
    rcases h1 with rfl | rfl
    · obtain rfl | rfl | rfl : h = 1 ∨ h = 2 ∨ h = 3 := by omega
      all_goals
        clear hs hs'
        go_enter Tryd.func117, Tryd.ntmps117
        go_wp2_with (fail)
        go_region_with (go_at_call 124; refine (note_crests _).mono ?_; rintro e w' ⟨rfl, rfl⟩)
        all_goals
          go_wp2
          go_ret
          exact ⟨ret_str (by rw [← HV.out]; exact ByteArray.ext (by simp [textOf, dg])), (by repeat (first | assumption | exact Below.refl _ _ | apply bel_alloc | apply bel_drew | apply bel_drewN | (refine bel_set ?_ (by first | assumption | omega | (simp; done) | (simp; omega)) _)))⟩
    · obtain ⟨m, rfl⟩ := Int.eq_ofNat_of_zero_le (show 0 ≤ h by omega)
      go_enter Tryd.func117, Tryd.ntmps117
      go_wp2_with (go_at_call 125; go_must ((refine (Tryd.strings_Repeat ⟨#[33]⟩ m _ (by omega) (by show 1 * m ≤ _; omega)).mono ?_; rintro e w' ⟨rfl, hw1⟩)))
      go_ret
      refine ⟨ret_str (by rw [← HV.out]; refine ByteArray.ext ?_; (obtain rfl | rfl | rfl : m = 1 ∨ m = 2 ∨ m = 3 := by omega) <;> simp [Lib.repeatL, textOf, List.replicate]), bel_then (by repeat (first | assumption | exact Below.refl _ _ | apply bel_alloc | apply bel_drew | apply bel_drewN | (refine bel_set ?_ (by first | assumption | omega | (simp; done) | (simp; omega)) _))) hw1⟩
  · dsimp only at *
    subst h1
    clear hr hg hh
    go_enter Tryd.func117, Tryd.ntmps117
    go_wp2
    go_quiet ((go_at_call 70; exact quiet_eq (itoa_dg _ _ (by omega) (by omega))))
    go_wp2
    go_ret
    exact ⟨ret_str (by rw [← HV.out]; exact ByteArray.ext (by simp [textOf, dg])), (by repeat (first | assumption | exact Below.refl _ _ | apply bel_alloc | apply bel_drew | apply bel_drewN | (refine bel_set ?_ (by first | assumption | omega | (simp; done) | (simp; omega)) _)))⟩
end Go.Proofs.YtinglbcafcjhfaaDoor
